/- drawbridgeref09.Check. -/
import Derived.Test.YtbhaekdfpfncnaaDoorRfA
import Derived.Test.YtbhaekdfpfncnaaDoorRfH
namespace Go.Proofs.YtbhaekdfpfncnaaDoor
set_option linter.unusedVariables false
set_option linter.unusedSimpArgs false
open Go.RowKit

theorem ok_peer {p : PK} (h : p.ok) {n : Int} (hn : -9223372036854775808 ≤ n ∧ n ≤ 9223372036854775807) : ({ p with peer := n } : PK).ok := ⟨h.kind, hn, h.ses, h.ep, h.cnt, h.rnd, h.mrk, h.bl, h.cap⟩
theorem ok_ses {p : PK} (h : p.ok) {n : Nat} (hn : n < 18446744073709551616) : ({ p with ses := n } : PK).ok := ⟨h.kind, h.peer, hn, h.ep, h.cnt, h.rnd, h.mrk, h.bl, h.cap⟩
theorem ok_ep {p : PK} (h : p.ok) {n : Nat} (hn : n < 4294967296) : ({ p with ep := n } : PK).ok := ⟨h.kind, h.peer, h.ses, hn, h.cnt, h.rnd, h.mrk, h.bl, h.cap⟩
theorem ok_cnt {p : PK} (h : p.ok) {n : Nat} (hn : n < 18446744073709551616) : ({ p with cnt := n } : PK).ok := ⟨h.kind, h.peer, h.ses, h.ep, hn, h.rnd, h.mrk, h.bl, h.cap⟩
theorem ok_rnd {p : PK} (h : p.ok) {m : List UInt8} (hm : m.length = 16) : ({ p with rnd := m } : PK).ok := ⟨h.kind, h.peer, h.ses, h.ep, h.cnt, hm, h.mrk, h.bl, h.cap⟩
theorem ok_mrk {p : PK} (h : p.ok) {m : List UInt8} (hm : m.length = 16) : ({ p with mrk := m } : PK).ok := ⟨h.kind, h.peer, h.ses, h.ep, h.cnt, h.rnd, hm, h.bl, h.cap⟩
def wantP (p : PK) : PK :=
  if p.kind = 1 then (⟨1, p.peer, 0, 0, 0, p.rnd, p.mrk, [], none, 0⟩ : PK)
  else if p.kind = 2 then (⟨2, 0, p.ses, p.ep, 0, p.rnd, p.mrk, [], none, 0⟩ : PK)
  else if p.kind = 3 then (⟨3, 0, p.ses, p.ep, p.cnt, Z16, Z16, [], none, 0⟩ : PK)
  else if p.kind = 4 then (⟨4, 0, p.ses, 0, 0, Z16, Z16, [], none, 0⟩ : PK) else kPK p.kind
def rchB (p : PK) : Bool :=
  if p.kind = 1 then (decide (1 ≤ p.peer) && decide (p.peer ≤ 65536)) && (p.bl.length == 0) && headB p (wantP p)
  else if p.kind = 2 then (decide (1 ≤ p.ses) && decide (1 ≤ p.ep)) && (p.bl.length == 0) && headB p (wantP p)
  else if p.kind = 3 then (decide (1 ≤ p.ses) && decide (1 ≤ p.ep) && decide (1 ≤ p.cnt) && decide (p.cnt ≤ 1152921504606846976)) && (decide (16 ≤ p.bl.length) && decide (p.bl.length ≤ 65552)) && headB p (wantP p)
  else if p.kind = 4 then decide (1 ≤ p.ses) && (p.bl.length == 0) && headB p (wantP p) else false
theorem rchB_eq (p : PK) : rchB p = chkB p := by
  obtain ⟨k, peer, ses, ep, cnt, rnd, mrk, bl, A, c⟩ := p
  unfold rchB chkB
  rw [show List.range 6 = [0, 1, 2, 3, 4, 5] from rfl]
  by_cases h1 : k = 1
  · subst h1
    simp [partB, hasL, mayB, zeroB, wantP, headB, kPK, Z16, List.replicate]
    grind
  by_cases h2 : k = 2
  · subst h2
    simp [partB, hasL, mayB, zeroB, wantP, headB, kPK, Z16, List.replicate]
    grind
  by_cases h3 : k = 3
  · subst h3
    simp [partB, hasL, mayB, zeroB, wantP, headB, kPK, Z16, List.replicate]
    grind
  by_cases h4 : k = 4
  · subst h4
    simp [partB, hasL, mayB, zeroB, wantP, headB, kPK, Z16, List.replicate]
    grind
  have hh : hasL k = [] := by unfold hasL; simp [h1, h2, h3, h4]
  simp [h1, h2, h3, h4, hh]


set_option maxHeartbeats 16000000 in
theorem rchk_calls (p : PK) (hp : p.ok) (w : World) : Calls Tryd.prog 26 #[.agg p.X] w fun e w' => e = .returned (.int .i64 (resN (chkB p))) ∧ Below w.heap.size w w' := by
  rw [← rchB_eq]
  have x0 := p.x0
  have x1 := p.x1
  have x2 := p.x2
  have x3 := p.x3
  have x4 := p.x4
  have xr := PK.xr hp
  have xm := PK.xm hp
  have x37 := PK.xb hp
  have RB : rchB p = rchB p := rfl
  generalize hR : rchB p = R
  clear RB
  have ZR : Unit → (bc p.rnd).length = 16 := fun _ => by rw [bc_length, hp.rnd]
  have ZM : Unit → (bc p.mrk).length = 16 := fun _ => by rw [bc_length, hp.mrk]
  have hcap := hp.cap
  have hbl := hp.bl
  obtain ⟨X, hX⟩ : ∃ X, X = p.X := ⟨_, rfl⟩
  have HX := fun _ : Unit => hX
  have ZX : Unit → X.size = 38 := fun _ => by rw [hX]; exact PK.size hp
  have HP := Lib.hid hp
  rw [← hX] at x0 x1 x2 x3 x4 xr xm x37 ⊢
  clear hX hp
  have XR := Lib.hid xr
  have XM := Lib.hid xm
  clear xr xm
  by_cases hk1 : p.kind = 1
  · rw [hk1] at x0
    have WP : Unit → wantP p = (⟨1, p.peer, 0, 0, 0, p.rnd, p.mrk, [], none, 0⟩ : PK) := fun _ => by unfold wantP; rw [if_pos hk1]
    go_enter Tryd.func26, Tryd.ntmps26
    go_wp2_with (first | (refine at_slot 8 ?_; refine wpList_build_to rfl 27 _ rfl (kPK 1).X (built_k _) ?_) | (refine at_store 27 ?_; refine wpList_store_row rfl 27 _ _ rfl (w.heap.size + 1) (kPK 1).X rfl rfl _ _ (Blk.newAt _ _ (by simp)) (by rw [PK.size (kPK_ok (k := 1) ⟨by omega, by omega⟩)]; kernel_rfl) (by rw [PK.size (kPK_ok (k := 1) ⟨by omega, by omega⟩)]; rfl) (PK.one _) ?_; generalize hw2 : World.setRow _ _ _ = w2; have b0 : Hid (Blk w2 w.heap.size 27 X) := Lib.hid (by rw [← hw2]; exact ((Blk.new _ _ _).alloc _).setRow_far (by omega) _); have b1 : Hid (Blk w2 (w.heap.size + 1) 27 (kPK 1).X) := Lib.hid (by rw [← hw2]; exact (Blk.newAt (w := World.alloc w _) _ zPK.X (by simp)).setRow _); have n2 : NewMem w w2 := (by rw [← hw2]; exact below_setRow_own ((NewMem.alloc _ _).more _) (by omega) _); clear hw2; have c0 := (b0.out.cell 0).trans x0; have c1 := (b0.out.cell 1).trans x1; have c2 := (b0.out.cell 2).trans x2; have c3 := (b0.out.cell 3).trans x3; have c4 := (b0.out.cell 4).trans x4; have c37 := (b0.out.cell 37).trans x37))
    refine region_toG (T := frT (w.heap.size + 1)) (J := chJ [7, 9, 11] (w.heap.size + 1) 27 [(kPK 1).X, ((⟨1, p.peer, 0, 0, 0, Z16, Z16, [], none, 0⟩ : PK)).X, ((⟨1, p.peer, 0, 0, 0, p.rnd, Z16, [], none, 0⟩ : PK)).X, ((⟨1, p.peer, 0, 0, 0, p.rnd, p.mrk, [], none, 0⟩ : PK)).X]) (frT_trans _) (frT_refl _) () (fun vs W γ => Blk W (w.heap.size + 1) 27 ((⟨1, p.peer, 0, 0, 0, p.rnd, p.mrk, [], none, 0⟩ : PK)).X) (by kernel_rfl) (by kernel_rfl) (by kernel_rfl) (chJ_start _ b1.out rfl) ⟨prOfG ([.is (.pointer (some ⟨w.heap.size, 1, none⟩)), .is (.int .i64 p.peer), .is (.pointer (some ⟨w.heap.size, 5, none⟩)), .is (.agg (bc p.rnd).toArray), .is (.pointer (some ⟨w.heap.size, 21, none⟩)), .is (.agg (bc p.mrk).toArray), .is (.pointer (some ⟨w.heap.size + 1, 1, none⟩)), .any, .is (.pointer (some ⟨w.heap.size + 1, 5, none⟩)), .any, .is (.pointer (some ⟨w.heap.size + 1, 21, none⟩)), .any] : List (PrG (frT (w.heap.size + 1)))), prOfG_st _, none_in [7, 9, 11] (by kernel_rfl) (by intro k hk; simp at hk; rcases hk with rfl | rfl | rfl <;> exact fun _ _ _ _ => trivial), ⟨?_, ?_, ?_, ?_, ?_, ?_, ?_, ?_, ?_, ?_, ?_, ?_, trivial⟩, fun vs W γ hT hJ hp => chJ_end hJ (by intro i hi; simp at hi; rcases hi with rfl | rfl | rfl <;> kernel_rfl) _ rfl rfl⟩ ?_
    · refine owes_plainG rfl fun dn a W γ hT hdn hdp hJ hf hd => ?_
      have e1 := hf 1 rfl
      exact step_val (w' := W) (by simp only [execOp]; go_simp) ⟨γ, frT_refl _ _ _, chJ_ne (by decide) hJ, rfl⟩
    · refine owes_plainG rfl fun dn a W γ hT hdn hdp hJ hf hd => ?_
      obtain ⟨v0, d0, rfl⟩ := hd 0 rfl
      have c := ((b0.out.keep (frT_fr hT) (by omega)).cell 1).trans x1
      exact step_val (w' := W) (by simp only [execOp]; go_simp) ⟨γ, frT_refl _ _ _, chJ_ne (by decide) hJ, rfl⟩
    · refine owes_plainG rfl fun dn a W γ hT hdn hdp hJ hf hd => ?_
      have e1 := hf 1 rfl
      exact step_val (w' := W) (by simp only [execOp]; go_simp) ⟨γ, frT_refl _ _ _, chJ_ne (by decide) hJ, rfl⟩
    · refine owes_plainG rfl fun dn a W γ hT hdn hdp hJ hf hd => ?_
      obtain ⟨v2, d2, rfl⟩ := hd 2 rfl
      have hb := b0.out.keep (frT_fr hT) (by omega)
      exact step_load_at 24 _ rfl ((eval_slot _ 19).trans d2) (F := fun _ => True) (xs := bc p.rnd) (fun j u hu => ⟨_, rfl, trivial, by rw [Addr.add_lit, hb.cell]; exact XR.out j u hu⟩) Tryd.underlying24 rfl (by rw [ZR ()]; kernel_rfl) ⟨γ, frT_refl _ _ _, chJ_ne (by decide) hJ, rfl⟩
    · refine owes_plainG rfl fun dn a W γ hT hdn hdp hJ hf hd => ?_
      have e1 := hf 1 rfl
      exact step_val (w' := W) (by simp only [execOp]; go_simp) ⟨γ, frT_refl _ _ _, chJ_ne (by decide) hJ, rfl⟩
    · refine owes_plainG rfl fun dn a W γ hT hdn hdp hJ hf hd => ?_
      obtain ⟨v4, d4, rfl⟩ := hd 4 rfl
      have hb := b0.out.keep (frT_fr hT) (by omega)
      exact step_load_at 24 _ rfl ((eval_slot _ 21).trans d4) (F := fun _ => True) (xs := bc p.mrk) (fun j u hu => ⟨_, rfl, trivial, by rw [Addr.add_lit, hb.cell]; exact XM.out j u hu⟩) Tryd.underlying24 rfl (by rw [ZM ()]; kernel_rfl) ⟨γ, frT_refl _ _ _, chJ_ne (by decide) hJ, rfl⟩
    · refine owes_plainG rfl fun dn a W γ hT hdn hdp hJ hf hd => ?_
      have e3 := hf 3 rfl
      exact step_val (w' := W) (by simp only [execOp]; go_simp) ⟨γ, frT_refl _ _ _, chJ_ne (by decide) hJ, rfl⟩
    · refine owes_plainG rfl fun dn a W γ hT hdn hdp hJ hf hd => ?_
      obtain ⟨v6, d6, rfl⟩ := hd 6 rfl
      obtain ⟨v1, d1, rfl⟩ := hd 1 rfl
      obtain ⟨C, hC, hb, hnx⟩ := chJ_step (by decide) 0 7 rfl (Or.inl rfl) hdn hJ
      obtain rfl := Option.some.inj hC
      have hc := (hb.cell 1).trans (PK.x1 _)
      have hfz := hb.frozen 1
      have hs := hb.set_ 1 (.int .i64 p.peer)
      rw [PK.set1] at hs
      have HS := Lib.hid hs
      have HNX := Lib.hid hnx
      clear hs hnx hb
      exact step_skip (w' := W.setCell ⟨w.heap.size + 1, 1, none⟩ (.int .i64 p.peer)) (by simp only [execOp]; go_simp) ⟨γ, (Fr.refl (fun b => b = w.heap.size + 1) _).setCell (p := ⟨w.heap.size + 1, 1, none⟩) (fun _ => rfl) _, HNX.out _ _ rfl HS.out, trivial⟩
    · refine owes_plainG rfl fun dn a W γ hT hdn hdp hJ hf hd => ?_
      have e3 := hf 3 rfl
      exact step_val (w' := W) (by simp only [execOp]; go_simp) ⟨γ, frT_refl _ _ _, chJ_ne (by decide) hJ, rfl⟩
    · refine owes_plainG rfl fun dn a W γ hT hdn hdp hJ hf hd => ?_
      obtain ⟨v8, d8, rfl⟩ := hd 8 rfl
      obtain ⟨v3, d3, rfl⟩ := hd 3 rfl
      obtain ⟨C, hC, hb, hnx⟩ := chJ_step (by decide) 1 9 rfl (Or.inr ⟨7, rfl, hdp 7 (by kernel_rfl)⟩) hdn hJ
      obtain rfl := Option.some.inj hC
      exact fun K hK => wp_store_at 24 _ _ rfl (w.heap.size + 1) 5 (bc p.rnd) ((eval_slot _ 24).trans d8) ((eval_slot _ 20).trans d3) _ _ hb (by rw [ZR (), show ((⟨1, p.peer, 0, 0, 0, Z16, Z16, [], none, 0⟩ : PK)).X.size = 38 from PK.size (ok_peer (kPK_ok (k := 1) ⟨by omega, by omega⟩) HP.out.peer)]; decide) (bc_one _) (by rw [ZR ()]; kernel_rfl) (hK undef _ ⟨γ, (Fr.refl (fun b => b = w.heap.size + 1) _).setRow (g := w.heap.size + 1) (fun _ => rfl) _, hnx _ _ rfl (by rw [show midC ((⟨1, p.peer, 0, 0, 0, Z16, Z16, [], none, 0⟩ : PK)).X 5 (bc p.rnd) = ((⟨1, p.peer, 0, 0, 0, p.rnd, Z16, [], none, 0⟩ : PK)).X from mid_rnd (ok_peer (kPK_ok (k := 1) ⟨by omega, by omega⟩) HP.out.peer) p.rnd (HP.out.rnd)]; exact hb.setRow _), trivial⟩)
    · refine owes_plainG rfl fun dn a W γ hT hdn hdp hJ hf hd => ?_
      have e3 := hf 3 rfl
      exact step_val (w' := W) (by simp only [execOp]; go_simp) ⟨γ, frT_refl _ _ _, chJ_ne (by decide) hJ, rfl⟩
    · refine owes_plainG rfl fun dn a W γ hT hdn hdp hJ hf hd => ?_
      obtain ⟨v10, d10, rfl⟩ := hd 10 rfl
      obtain ⟨v5, d5, rfl⟩ := hd 5 rfl
      obtain ⟨C, hC, hb, hnx⟩ := chJ_step (by decide) 2 11 rfl (Or.inr ⟨9, rfl, hdp 9 (by kernel_rfl)⟩) hdn hJ
      obtain rfl := Option.some.inj hC
      exact fun K hK => wp_store_at 24 _ _ rfl (w.heap.size + 1) 21 (bc p.mrk) ((eval_slot _ 25).trans d10) ((eval_slot _ 22).trans d5) _ _ hb (by rw [ZM (), show ((⟨1, p.peer, 0, 0, 0, p.rnd, Z16, [], none, 0⟩ : PK)).X.size = 38 from PK.size (ok_rnd (ok_peer (kPK_ok (k := 1) ⟨by omega, by omega⟩) HP.out.peer) HP.out.rnd)]; decide) (bc_one _) (by rw [ZM ()]; kernel_rfl) (hK undef _ ⟨γ, (Fr.refl (fun b => b = w.heap.size + 1) _).setRow (g := w.heap.size + 1) (fun _ => rfl) _, hnx _ _ rfl (by rw [show midC ((⟨1, p.peer, 0, 0, 0, p.rnd, Z16, [], none, 0⟩ : PK)).X 21 (bc p.mrk) = ((⟨1, p.peer, 0, 0, 0, p.rnd, p.mrk, [], none, 0⟩ : PK)).X from mid_mark (ok_rnd (ok_peer (kPK_ok (k := 1) ⟨by omega, by omega⟩) HP.out.peer) HP.out.rnd) p.mrk (HP.out.mrk)]; exact hb.setRow _), trivial⟩)
    rintro vs w3 γ hT hb3
    have n3 : NewMem w w3 := below_fr n2 (frT_fr hT) (Nat.le_refl _) (fun k hk => by omega)
    have b0 := Lib.hid (b0.out.keep (frT_fr hT) (by omega))
    have b1 : Hid (Blk w3 (w.heap.size + 1) 27 ((⟨1, p.peer, 0, 0, 0, p.rnd, p.mrk, [], none, 0⟩ : PK)).X) := Lib.hid hb3
    clear hT hb3 n2 c0 c1 c2 c3 c4 c37
    have c0 := (b0.out.cell 0).trans x0; have c1 := (b0.out.cell 1).trans x1; have c2 := (b0.out.cell 2).trans x2; have c3 := (b0.out.cell 3).trans x3; have c4 := (b0.out.cell 4).trans x4; have c37 := (b0.out.cell 37).trans x37
    simp only [laid, Nat.reduceAdd]
    by_cases t0 : 1 ≤ p.peer
    rotate_left
    · have HR : Unit → R = false := fun _ => by rw [← hR]; unfold rchB; rw [if_pos hk1]; simp [t0]
      have u00 : decide (1 ≤ p.peer) = false := by rw [decide_eq_false_iff_not]; omega
      clear hR
      go_wp2_with fail
      all_goals (go_ret; exact ⟨by rw [HR ()]; rfl, n3⟩)
    have u00 : decide (1 ≤ p.peer) = true := by rw [decide_eq_true_eq]; omega
    by_cases t1 : p.peer ≤ 65536
    rotate_left
    · have HR : Unit → R = false := fun _ => by rw [← hR]; unfold rchB; rw [if_pos hk1]; simp [t0, t1]
      have u10 : decide (p.peer ≤ 65536) = false := by rw [decide_eq_false_iff_not]; omega
      clear hR
      go_wp2_with fail
      all_goals (go_ret; exact ⟨by rw [HR ()]; rfl, n3⟩)
    have u10 : decide (p.peer ≤ 65536) = true := by rw [decide_eq_true_eq]; omega
    by_cases t2 : p.bl.length = 0
    rotate_left
    · have HR : Unit → R = false := fun _ => by rw [← hR]; unfold rchB; rw [if_pos hk1]; simp [t0, t1, t2]
      have u20 : ((p.bl.length : Int) == 0) = false := by rw [beq_eq_false_iff_ne]; omega
      clear hR
      go_wp2_with fail
      all_goals (go_ret; exact ⟨by rw [HR ()]; rfl, n3⟩)
    have u20 : ((p.bl.length : Int) == 0) = true := by rw [beq_iff_eq]; omega
    rw [u20]
    go_wp2_with (first | (refine at_slot 110 ?_; refine wpList_load_rd_if (by first | rfl | simp [Region.wanted, yielded]) 27 _ rfl ⟨w.heap.size, 0, none⟩ rfl X.toList _ (blkC (b0.out)) Tryd.underlying27 rfl (by rw [Array.length_toList, ZX ()]; kernel_rfl) ?_; rw [Array.toArray_toList]) | (refine at_slot 111 ?_; refine wpList_load_rd_if (by first | rfl | simp [Region.wanted, yielded]) 27 _ rfl ⟨w.heap.size + 1, 0, none⟩ rfl ((⟨1, p.peer, 0, 0, 0, p.rnd, p.mrk, [], none, 0⟩ : PK)).X.toList _ (blkC (b1.out)) Tryd.underlying27 rfl (by rw [Array.length_toList, show ((⟨1, p.peer, 0, 0, 0, p.rnd, p.mrk, [], none, 0⟩ : PK)).X.size = 38 from PK.size (ok_mrk (ok_rnd (ok_peer (kPK_ok (k := 1) ⟨by omega, by omega⟩) HP.out.peer) HP.out.rnd) HP.out.mrk)]; kernel_rfl) ?_; rw [Array.toArray_toList]))
    rw [HX ()]
    refine (head_calls p ((⟨1, p.peer, 0, 0, 0, p.rnd, p.mrk, [], none, 0⟩ : PK)) HP.out (ok_mrk (ok_rnd (ok_peer (kPK_ok (k := 1) ⟨by omega, by omega⟩) HP.out.peer) HP.out.rnd) HP.out.mrk) _).mono ?_
    rintro e w9 ⟨rfl, hb9⟩
    cases hh : headB p ((⟨1, p.peer, 0, 0, 0, p.rnd, p.mrk, [], none, 0⟩ : PK))
    · have HR : Unit → R = false := fun _ => by rw [← hR]; unfold rchB; rw [if_pos hk1, WP (), hh]; simp [t0, t1, t2]
      clear hR hh
      go_wp2_with fail
      go_ret
      exact ⟨by rw [HR ()]; rfl, NewMem.trans _ _ _ n3 hb9⟩
    · have HR : Unit → R = true := fun _ => by rw [← hR]; unfold rchB; rw [if_pos hk1, WP (), hh]; simp [t0, t1, t2]
      clear hR hh
      go_wp2_with fail
      go_ret
      exact ⟨by rw [HR ()]; rfl, NewMem.trans _ _ _ n3 hb9⟩
  by_cases hk2 : p.kind = 2
  · rw [hk2] at x0
    have WP : Unit → wantP p = (⟨2, 0, p.ses, p.ep, 0, p.rnd, p.mrk, [], none, 0⟩ : PK) := fun _ => by unfold wantP; rw [if_neg hk1, if_pos hk2]
    go_enter Tryd.func26, Tryd.ntmps26
    go_wp2_with (first | (refine at_slot 8 ?_; refine wpList_build_to rfl 27 _ rfl (kPK 2).X (built_k _) ?_) | (refine at_store 27 ?_; refine wpList_store_row rfl 27 _ _ rfl (w.heap.size + 1) (kPK 2).X rfl rfl _ _ (Blk.newAt _ _ (by simp)) (by rw [PK.size (kPK_ok (k := 2) ⟨by omega, by omega⟩)]; kernel_rfl) (by rw [PK.size (kPK_ok (k := 2) ⟨by omega, by omega⟩)]; rfl) (PK.one _) ?_; generalize hw2 : World.setRow _ _ _ = w2; have b0 : Hid (Blk w2 w.heap.size 27 X) := Lib.hid (by rw [← hw2]; exact ((Blk.new _ _ _).alloc _).setRow_far (by omega) _); have b1 : Hid (Blk w2 (w.heap.size + 1) 27 (kPK 2).X) := Lib.hid (by rw [← hw2]; exact (Blk.newAt (w := World.alloc w _) _ zPK.X (by simp)).setRow _); have n2 : NewMem w w2 := (by rw [← hw2]; exact below_setRow_own ((NewMem.alloc _ _).more _) (by omega) _); clear hw2; have c0 := (b0.out.cell 0).trans x0; have c1 := (b0.out.cell 1).trans x1; have c2 := (b0.out.cell 2).trans x2; have c3 := (b0.out.cell 3).trans x3; have c4 := (b0.out.cell 4).trans x4; have c37 := (b0.out.cell 37).trans x37))
    refine region_toG (T := frT (w.heap.size + 1)) (J := chJ [9, 11, 13, 15] (w.heap.size + 1) 27 [(kPK 2).X, ((⟨2, 0, p.ses, 0, 0, Z16, Z16, [], none, 0⟩ : PK)).X, ((⟨2, 0, p.ses, p.ep, 0, Z16, Z16, [], none, 0⟩ : PK)).X, ((⟨2, 0, p.ses, p.ep, 0, p.rnd, Z16, [], none, 0⟩ : PK)).X, ((⟨2, 0, p.ses, p.ep, 0, p.rnd, p.mrk, [], none, 0⟩ : PK)).X]) (frT_trans _) (frT_refl _) () (fun vs W γ => Blk W (w.heap.size + 1) 27 ((⟨2, 0, p.ses, p.ep, 0, p.rnd, p.mrk, [], none, 0⟩ : PK)).X) (by kernel_rfl) (by kernel_rfl) (by kernel_rfl) (chJ_start _ b1.out rfl) ⟨prOfG ([.is (.pointer (some ⟨w.heap.size, 2, none⟩)), .is (.int .u64 (p.ses : Int)), .is (.pointer (some ⟨w.heap.size, 3, none⟩)), .is (.int .u32 (p.ep : Int)), .is (.pointer (some ⟨w.heap.size, 5, none⟩)), .is (.agg (bc p.rnd).toArray), .is (.pointer (some ⟨w.heap.size, 21, none⟩)), .is (.agg (bc p.mrk).toArray), .is (.pointer (some ⟨w.heap.size + 1, 2, none⟩)), .any, .is (.pointer (some ⟨w.heap.size + 1, 3, none⟩)), .any, .is (.pointer (some ⟨w.heap.size + 1, 5, none⟩)), .any, .is (.pointer (some ⟨w.heap.size + 1, 21, none⟩)), .any] : List (PrG (frT (w.heap.size + 1)))), prOfG_st _, none_in [9, 11, 13, 15] (by kernel_rfl) (by intro k hk; simp at hk; rcases hk with rfl | rfl | rfl | rfl <;> exact fun _ _ _ _ => trivial), ⟨?_, ?_, ?_, ?_, ?_, ?_, ?_, ?_, ?_, ?_, ?_, ?_, ?_, ?_, ?_, ?_, trivial⟩, fun vs W γ hT hJ hp => chJ_end hJ (by intro i hi; simp at hi; rcases hi with rfl | rfl | rfl | rfl <;> kernel_rfl) _ rfl rfl⟩ ?_
    · refine owes_plainG rfl fun dn a W γ hT hdn hdp hJ hf hd => ?_
      have e1 := hf 1 rfl
      exact step_val (w' := W) (by simp only [execOp]; go_simp) ⟨γ, frT_refl _ _ _, chJ_ne (by decide) hJ, rfl⟩
    · refine owes_plainG rfl fun dn a W γ hT hdn hdp hJ hf hd => ?_
      obtain ⟨v0, d0, rfl⟩ := hd 0 rfl
      have c := ((b0.out.keep (frT_fr hT) (by omega)).cell 2).trans x2
      exact step_val (w' := W) (by simp only [execOp]; go_simp) ⟨γ, frT_refl _ _ _, chJ_ne (by decide) hJ, rfl⟩
    · refine owes_plainG rfl fun dn a W γ hT hdn hdp hJ hf hd => ?_
      have e1 := hf 1 rfl
      exact step_val (w' := W) (by simp only [execOp]; go_simp) ⟨γ, frT_refl _ _ _, chJ_ne (by decide) hJ, rfl⟩
    · refine owes_plainG rfl fun dn a W γ hT hdn hdp hJ hf hd => ?_
      obtain ⟨v2, d2, rfl⟩ := hd 2 rfl
      have c := ((b0.out.keep (frT_fr hT) (by omega)).cell 3).trans x3
      exact step_val (w' := W) (by simp only [execOp]; go_simp) ⟨γ, frT_refl _ _ _, chJ_ne (by decide) hJ, rfl⟩
    · refine owes_plainG rfl fun dn a W γ hT hdn hdp hJ hf hd => ?_
      have e1 := hf 1 rfl
      exact step_val (w' := W) (by simp only [execOp]; go_simp) ⟨γ, frT_refl _ _ _, chJ_ne (by decide) hJ, rfl⟩
    · refine owes_plainG rfl fun dn a W γ hT hdn hdp hJ hf hd => ?_
      obtain ⟨v4, d4, rfl⟩ := hd 4 rfl
      have hb := b0.out.keep (frT_fr hT) (by omega)
      exact step_load_at 24 _ rfl ((eval_slot _ 40).trans d4) (F := fun _ => True) (xs := bc p.rnd) (fun j u hu => ⟨_, rfl, trivial, by rw [Addr.add_lit, hb.cell]; exact XR.out j u hu⟩) Tryd.underlying24 rfl (by rw [ZR ()]; kernel_rfl) ⟨γ, frT_refl _ _ _, chJ_ne (by decide) hJ, rfl⟩
    · refine owes_plainG rfl fun dn a W γ hT hdn hdp hJ hf hd => ?_
      have e1 := hf 1 rfl
      exact step_val (w' := W) (by simp only [execOp]; go_simp) ⟨γ, frT_refl _ _ _, chJ_ne (by decide) hJ, rfl⟩
    · refine owes_plainG rfl fun dn a W γ hT hdn hdp hJ hf hd => ?_
      obtain ⟨v6, d6, rfl⟩ := hd 6 rfl
      have hb := b0.out.keep (frT_fr hT) (by omega)
      exact step_load_at 24 _ rfl ((eval_slot _ 42).trans d6) (F := fun _ => True) (xs := bc p.mrk) (fun j u hu => ⟨_, rfl, trivial, by rw [Addr.add_lit, hb.cell]; exact XM.out j u hu⟩) Tryd.underlying24 rfl (by rw [ZM ()]; kernel_rfl) ⟨γ, frT_refl _ _ _, chJ_ne (by decide) hJ, rfl⟩
    · refine owes_plainG rfl fun dn a W γ hT hdn hdp hJ hf hd => ?_
      have e3 := hf 3 rfl
      exact step_val (w' := W) (by simp only [execOp]; go_simp) ⟨γ, frT_refl _ _ _, chJ_ne (by decide) hJ, rfl⟩
    · refine owes_plainG rfl fun dn a W γ hT hdn hdp hJ hf hd => ?_
      obtain ⟨v8, d8, rfl⟩ := hd 8 rfl
      obtain ⟨v1, d1, rfl⟩ := hd 1 rfl
      obtain ⟨C, hC, hb, hnx⟩ := chJ_step (by decide) 0 9 rfl (Or.inl rfl) hdn hJ
      obtain rfl := Option.some.inj hC
      have hc := (hb.cell 2).trans (PK.x2 _)
      have hfz := hb.frozen 2
      have hs := hb.set_ 2 (.int .u64 (p.ses : Int))
      rw [PK.set2] at hs
      have HS := Lib.hid hs
      have HNX := Lib.hid hnx
      clear hs hnx hb
      exact step_skip (w' := W.setCell ⟨w.heap.size + 1, 2, none⟩ (.int .u64 (p.ses : Int))) (by simp only [execOp]; go_simp) ⟨γ, (Fr.refl (fun b => b = w.heap.size + 1) _).setCell (p := ⟨w.heap.size + 1, 2, none⟩) (fun _ => rfl) _, HNX.out _ _ rfl HS.out, trivial⟩
    · refine owes_plainG rfl fun dn a W γ hT hdn hdp hJ hf hd => ?_
      have e3 := hf 3 rfl
      exact step_val (w' := W) (by simp only [execOp]; go_simp) ⟨γ, frT_refl _ _ _, chJ_ne (by decide) hJ, rfl⟩
    · refine owes_plainG rfl fun dn a W γ hT hdn hdp hJ hf hd => ?_
      obtain ⟨v10, d10, rfl⟩ := hd 10 rfl
      obtain ⟨v3, d3, rfl⟩ := hd 3 rfl
      obtain ⟨C, hC, hb, hnx⟩ := chJ_step (by decide) 1 11 rfl (Or.inr ⟨9, rfl, hdp 9 (by kernel_rfl)⟩) hdn hJ
      obtain rfl := Option.some.inj hC
      have hc := (hb.cell 3).trans (PK.x3 _)
      have hfz := hb.frozen 3
      have hs := hb.set_ 3 (.int .u32 (p.ep : Int))
      rw [PK.set3] at hs
      have HS := Lib.hid hs
      have HNX := Lib.hid hnx
      clear hs hnx hb
      exact step_skip (w' := W.setCell ⟨w.heap.size + 1, 3, none⟩ (.int .u32 (p.ep : Int))) (by simp only [execOp]; go_simp) ⟨γ, (Fr.refl (fun b => b = w.heap.size + 1) _).setCell (p := ⟨w.heap.size + 1, 3, none⟩) (fun _ => rfl) _, HNX.out _ _ rfl HS.out, trivial⟩
    · refine owes_plainG rfl fun dn a W γ hT hdn hdp hJ hf hd => ?_
      have e3 := hf 3 rfl
      exact step_val (w' := W) (by simp only [execOp]; go_simp) ⟨γ, frT_refl _ _ _, chJ_ne (by decide) hJ, rfl⟩
    · refine owes_plainG rfl fun dn a W γ hT hdn hdp hJ hf hd => ?_
      obtain ⟨v12, d12, rfl⟩ := hd 12 rfl
      obtain ⟨v5, d5, rfl⟩ := hd 5 rfl
      obtain ⟨C, hC, hb, hnx⟩ := chJ_step (by decide) 2 13 rfl (Or.inr ⟨11, rfl, hdp 11 (by kernel_rfl)⟩) hdn hJ
      obtain rfl := Option.some.inj hC
      exact fun K hK => wp_store_at 24 _ _ rfl (w.heap.size + 1) 5 (bc p.rnd) ((eval_slot _ 46).trans d12) ((eval_slot _ 41).trans d5) _ _ hb (by rw [ZR (), show ((⟨2, 0, p.ses, p.ep, 0, Z16, Z16, [], none, 0⟩ : PK)).X.size = 38 from PK.size (ok_ep (ok_ses (kPK_ok (k := 2) ⟨by omega, by omega⟩) HP.out.ses) HP.out.ep)]; decide) (bc_one _) (by rw [ZR ()]; kernel_rfl) (hK undef _ ⟨γ, (Fr.refl (fun b => b = w.heap.size + 1) _).setRow (g := w.heap.size + 1) (fun _ => rfl) _, hnx _ _ rfl (by rw [show midC ((⟨2, 0, p.ses, p.ep, 0, Z16, Z16, [], none, 0⟩ : PK)).X 5 (bc p.rnd) = ((⟨2, 0, p.ses, p.ep, 0, p.rnd, Z16, [], none, 0⟩ : PK)).X from mid_rnd (ok_ep (ok_ses (kPK_ok (k := 2) ⟨by omega, by omega⟩) HP.out.ses) HP.out.ep) p.rnd (HP.out.rnd)]; exact hb.setRow _), trivial⟩)
    · refine owes_plainG rfl fun dn a W γ hT hdn hdp hJ hf hd => ?_
      have e3 := hf 3 rfl
      exact step_val (w' := W) (by simp only [execOp]; go_simp) ⟨γ, frT_refl _ _ _, chJ_ne (by decide) hJ, rfl⟩
    · refine owes_plainG rfl fun dn a W γ hT hdn hdp hJ hf hd => ?_
      obtain ⟨v14, d14, rfl⟩ := hd 14 rfl
      obtain ⟨v7, d7, rfl⟩ := hd 7 rfl
      obtain ⟨C, hC, hb, hnx⟩ := chJ_step (by decide) 3 15 rfl (Or.inr ⟨13, rfl, hdp 13 (by kernel_rfl)⟩) hdn hJ
      obtain rfl := Option.some.inj hC
      exact fun K hK => wp_store_at 24 _ _ rfl (w.heap.size + 1) 21 (bc p.mrk) ((eval_slot _ 47).trans d14) ((eval_slot _ 43).trans d7) _ _ hb (by rw [ZM (), show ((⟨2, 0, p.ses, p.ep, 0, p.rnd, Z16, [], none, 0⟩ : PK)).X.size = 38 from PK.size (ok_rnd (ok_ep (ok_ses (kPK_ok (k := 2) ⟨by omega, by omega⟩) HP.out.ses) HP.out.ep) HP.out.rnd)]; decide) (bc_one _) (by rw [ZM ()]; kernel_rfl) (hK undef _ ⟨γ, (Fr.refl (fun b => b = w.heap.size + 1) _).setRow (g := w.heap.size + 1) (fun _ => rfl) _, hnx _ _ rfl (by rw [show midC ((⟨2, 0, p.ses, p.ep, 0, p.rnd, Z16, [], none, 0⟩ : PK)).X 21 (bc p.mrk) = ((⟨2, 0, p.ses, p.ep, 0, p.rnd, p.mrk, [], none, 0⟩ : PK)).X from mid_mark (ok_rnd (ok_ep (ok_ses (kPK_ok (k := 2) ⟨by omega, by omega⟩) HP.out.ses) HP.out.ep) HP.out.rnd) p.mrk (HP.out.mrk)]; exact hb.setRow _), trivial⟩)
    rintro vs w3 γ hT hb3
    have n3 : NewMem w w3 := below_fr n2 (frT_fr hT) (Nat.le_refl _) (fun k hk => by omega)
    have b0 := Lib.hid (b0.out.keep (frT_fr hT) (by omega))
    have b1 : Hid (Blk w3 (w.heap.size + 1) 27 ((⟨2, 0, p.ses, p.ep, 0, p.rnd, p.mrk, [], none, 0⟩ : PK)).X) := Lib.hid hb3
    clear hT hb3 n2 c0 c1 c2 c3 c4 c37
    have c0 := (b0.out.cell 0).trans x0; have c1 := (b0.out.cell 1).trans x1; have c2 := (b0.out.cell 2).trans x2; have c3 := (b0.out.cell 3).trans x3; have c4 := (b0.out.cell 4).trans x4; have c37 := (b0.out.cell 37).trans x37
    simp only [laid, Nat.reduceAdd]
    by_cases t0 : 1 ≤ p.ses
    rotate_left
    · have HR : Unit → R = false := fun _ => by rw [← hR]; unfold rchB; rw [if_neg hk1, if_pos hk2]; simp [t0]
      have u00 : decide ((1 : Int) ≤ (p.ses : Int)) = false := by rw [decide_eq_false_iff_not]; omega
      clear hR
      go_wp2_with fail
      all_goals (go_ret; exact ⟨by rw [HR ()]; rfl, n3⟩)
    have u00 : decide ((1 : Int) ≤ (p.ses : Int)) = true := by rw [decide_eq_true_eq]; omega
    by_cases t1 : 1 ≤ p.ep
    rotate_left
    · have HR : Unit → R = false := fun _ => by rw [← hR]; unfold rchB; rw [if_neg hk1, if_pos hk2]; simp [t0, t1]
      have u10 : decide ((1 : Int) ≤ (p.ep : Int)) = false := by rw [decide_eq_false_iff_not]; omega
      clear hR
      go_wp2_with fail
      all_goals (go_ret; exact ⟨by rw [HR ()]; rfl, n3⟩)
    have u10 : decide ((1 : Int) ≤ (p.ep : Int)) = true := by rw [decide_eq_true_eq]; omega
    by_cases t2 : p.bl.length = 0
    rotate_left
    · have HR : Unit → R = false := fun _ => by rw [← hR]; unfold rchB; rw [if_neg hk1, if_pos hk2]; simp [t0, t1, t2]
      have u20 : ((p.bl.length : Int) == 0) = false := by rw [beq_eq_false_iff_ne]; omega
      clear hR
      go_wp2_with fail
      all_goals (go_ret; exact ⟨by rw [HR ()]; rfl, n3⟩)
    have u20 : ((p.bl.length : Int) == 0) = true := by rw [beq_iff_eq]; omega
    rw [u20]
    go_wp2_with (first | (refine at_slot 110 ?_; refine wpList_load_rd_if (by first | rfl | simp [Region.wanted, yielded]) 27 _ rfl ⟨w.heap.size, 0, none⟩ rfl X.toList _ (blkC (b0.out)) Tryd.underlying27 rfl (by rw [Array.length_toList, ZX ()]; kernel_rfl) ?_; rw [Array.toArray_toList]) | (refine at_slot 111 ?_; refine wpList_load_rd_if (by first | rfl | simp [Region.wanted, yielded]) 27 _ rfl ⟨w.heap.size + 1, 0, none⟩ rfl ((⟨2, 0, p.ses, p.ep, 0, p.rnd, p.mrk, [], none, 0⟩ : PK)).X.toList _ (blkC (b1.out)) Tryd.underlying27 rfl (by rw [Array.length_toList, show ((⟨2, 0, p.ses, p.ep, 0, p.rnd, p.mrk, [], none, 0⟩ : PK)).X.size = 38 from PK.size (ok_mrk (ok_rnd (ok_ep (ok_ses (kPK_ok (k := 2) ⟨by omega, by omega⟩) HP.out.ses) HP.out.ep) HP.out.rnd) HP.out.mrk)]; kernel_rfl) ?_; rw [Array.toArray_toList]))
    rw [HX ()]
    refine (head_calls p ((⟨2, 0, p.ses, p.ep, 0, p.rnd, p.mrk, [], none, 0⟩ : PK)) HP.out (ok_mrk (ok_rnd (ok_ep (ok_ses (kPK_ok (k := 2) ⟨by omega, by omega⟩) HP.out.ses) HP.out.ep) HP.out.rnd) HP.out.mrk) _).mono ?_
    rintro e w9 ⟨rfl, hb9⟩
    cases hh : headB p ((⟨2, 0, p.ses, p.ep, 0, p.rnd, p.mrk, [], none, 0⟩ : PK))
    · have HR : Unit → R = false := fun _ => by rw [← hR]; unfold rchB; rw [if_neg hk1, if_pos hk2, WP (), hh]; simp [t0, t1, t2]
      clear hR hh
      go_wp2_with fail
      go_ret
      exact ⟨by rw [HR ()]; rfl, NewMem.trans _ _ _ n3 hb9⟩
    · have HR : Unit → R = true := fun _ => by rw [← hR]; unfold rchB; rw [if_neg hk1, if_pos hk2, WP (), hh]; simp [t0, t1, t2]
      clear hR hh
      go_wp2_with fail
      go_ret
      exact ⟨by rw [HR ()]; rfl, NewMem.trans _ _ _ n3 hb9⟩
  by_cases hk3 : p.kind = 3
  · rw [hk3] at x0
    have WP : Unit → wantP p = (⟨3, 0, p.ses, p.ep, p.cnt, Z16, Z16, [], none, 0⟩ : PK) := fun _ => by unfold wantP; rw [if_neg hk1, if_neg hk2, if_pos hk3]
    go_enter Tryd.func26, Tryd.ntmps26
    go_wp2_with (first | (refine at_slot 8 ?_; refine wpList_build_to rfl 27 _ rfl (kPK 3).X (built_k _) ?_) | (refine at_store 27 ?_; refine wpList_store_row rfl 27 _ _ rfl (w.heap.size + 1) (kPK 3).X rfl rfl _ _ (Blk.newAt _ _ (by simp)) (by rw [PK.size (kPK_ok (k := 3) ⟨by omega, by omega⟩)]; kernel_rfl) (by rw [PK.size (kPK_ok (k := 3) ⟨by omega, by omega⟩)]; rfl) (PK.one _) ?_; generalize hw2 : World.setRow _ _ _ = w2; have b0 : Hid (Blk w2 w.heap.size 27 X) := Lib.hid (by rw [← hw2]; exact ((Blk.new _ _ _).alloc _).setRow_far (by omega) _); have b1 : Hid (Blk w2 (w.heap.size + 1) 27 (kPK 3).X) := Lib.hid (by rw [← hw2]; exact (Blk.newAt (w := World.alloc w _) _ zPK.X (by simp)).setRow _); have n2 : NewMem w w2 := (by rw [← hw2]; exact below_setRow_own ((NewMem.alloc _ _).more _) (by omega) _); clear hw2; have c0 := (b0.out.cell 0).trans x0; have c1 := (b0.out.cell 1).trans x1; have c2 := (b0.out.cell 2).trans x2; have c3 := (b0.out.cell 3).trans x3; have c4 := (b0.out.cell 4).trans x4; have c37 := (b0.out.cell 37).trans x37))
    refine region_toG (T := frT (w.heap.size + 1)) (J := chJ [7, 9, 11] (w.heap.size + 1) 27 [(kPK 3).X, ((⟨3, 0, p.ses, 0, 0, Z16, Z16, [], none, 0⟩ : PK)).X, ((⟨3, 0, p.ses, p.ep, 0, Z16, Z16, [], none, 0⟩ : PK)).X, ((⟨3, 0, p.ses, p.ep, p.cnt, Z16, Z16, [], none, 0⟩ : PK)).X]) (frT_trans _) (frT_refl _) () (fun vs W γ => Blk W (w.heap.size + 1) 27 ((⟨3, 0, p.ses, p.ep, p.cnt, Z16, Z16, [], none, 0⟩ : PK)).X) (by kernel_rfl) (by kernel_rfl) (by kernel_rfl) (chJ_start _ b1.out rfl) ⟨prOfG ([.is (.pointer (some ⟨w.heap.size, 2, none⟩)), .is (.int .u64 (p.ses : Int)), .is (.pointer (some ⟨w.heap.size, 3, none⟩)), .is (.int .u32 (p.ep : Int)), .is (.pointer (some ⟨w.heap.size, 4, none⟩)), .is (.int .u64 (p.cnt : Int)), .is (.pointer (some ⟨w.heap.size + 1, 2, none⟩)), .any, .is (.pointer (some ⟨w.heap.size + 1, 3, none⟩)), .any, .is (.pointer (some ⟨w.heap.size + 1, 4, none⟩)), .any] : List (PrG (frT (w.heap.size + 1)))), prOfG_st _, none_in [7, 9, 11] (by kernel_rfl) (by intro k hk; simp at hk; rcases hk with rfl | rfl | rfl <;> exact fun _ _ _ _ => trivial), ⟨?_, ?_, ?_, ?_, ?_, ?_, ?_, ?_, ?_, ?_, ?_, ?_, trivial⟩, fun vs W γ hT hJ hp => chJ_end hJ (by intro i hi; simp at hi; rcases hi with rfl | rfl | rfl <;> kernel_rfl) _ rfl rfl⟩ ?_
    · refine owes_plainG rfl fun dn a W γ hT hdn hdp hJ hf hd => ?_
      have e1 := hf 1 rfl
      exact step_val (w' := W) (by simp only [execOp]; go_simp) ⟨γ, frT_refl _ _ _, chJ_ne (by decide) hJ, rfl⟩
    · refine owes_plainG rfl fun dn a W γ hT hdn hdp hJ hf hd => ?_
      obtain ⟨v0, d0, rfl⟩ := hd 0 rfl
      have c := ((b0.out.keep (frT_fr hT) (by omega)).cell 2).trans x2
      exact step_val (w' := W) (by simp only [execOp]; go_simp) ⟨γ, frT_refl _ _ _, chJ_ne (by decide) hJ, rfl⟩
    · refine owes_plainG rfl fun dn a W γ hT hdn hdp hJ hf hd => ?_
      have e1 := hf 1 rfl
      exact step_val (w' := W) (by simp only [execOp]; go_simp) ⟨γ, frT_refl _ _ _, chJ_ne (by decide) hJ, rfl⟩
    · refine owes_plainG rfl fun dn a W γ hT hdn hdp hJ hf hd => ?_
      obtain ⟨v2, d2, rfl⟩ := hd 2 rfl
      have c := ((b0.out.keep (frT_fr hT) (by omega)).cell 3).trans x3
      exact step_val (w' := W) (by simp only [execOp]; go_simp) ⟨γ, frT_refl _ _ _, chJ_ne (by decide) hJ, rfl⟩
    · refine owes_plainG rfl fun dn a W γ hT hdn hdp hJ hf hd => ?_
      have e1 := hf 1 rfl
      exact step_val (w' := W) (by simp only [execOp]; go_simp) ⟨γ, frT_refl _ _ _, chJ_ne (by decide) hJ, rfl⟩
    · refine owes_plainG rfl fun dn a W γ hT hdn hdp hJ hf hd => ?_
      obtain ⟨v4, d4, rfl⟩ := hd 4 rfl
      have c := ((b0.out.keep (frT_fr hT) (by omega)).cell 4).trans x4
      exact step_val (w' := W) (by simp only [execOp]; go_simp) ⟨γ, frT_refl _ _ _, chJ_ne (by decide) hJ, rfl⟩
    · refine owes_plainG rfl fun dn a W γ hT hdn hdp hJ hf hd => ?_
      have e3 := hf 3 rfl
      exact step_val (w' := W) (by simp only [execOp]; go_simp) ⟨γ, frT_refl _ _ _, chJ_ne (by decide) hJ, rfl⟩
    · refine owes_plainG rfl fun dn a W γ hT hdn hdp hJ hf hd => ?_
      obtain ⟨v6, d6, rfl⟩ := hd 6 rfl
      obtain ⟨v1, d1, rfl⟩ := hd 1 rfl
      obtain ⟨C, hC, hb, hnx⟩ := chJ_step (by decide) 0 7 rfl (Or.inl rfl) hdn hJ
      obtain rfl := Option.some.inj hC
      have hc := (hb.cell 2).trans (PK.x2 _)
      have hfz := hb.frozen 2
      have hs := hb.set_ 2 (.int .u64 (p.ses : Int))
      rw [PK.set2] at hs
      have HS := Lib.hid hs
      have HNX := Lib.hid hnx
      clear hs hnx hb
      exact step_skip (w' := W.setCell ⟨w.heap.size + 1, 2, none⟩ (.int .u64 (p.ses : Int))) (by simp only [execOp]; go_simp) ⟨γ, (Fr.refl (fun b => b = w.heap.size + 1) _).setCell (p := ⟨w.heap.size + 1, 2, none⟩) (fun _ => rfl) _, HNX.out _ _ rfl HS.out, trivial⟩
    · refine owes_plainG rfl fun dn a W γ hT hdn hdp hJ hf hd => ?_
      have e3 := hf 3 rfl
      exact step_val (w' := W) (by simp only [execOp]; go_simp) ⟨γ, frT_refl _ _ _, chJ_ne (by decide) hJ, rfl⟩
    · refine owes_plainG rfl fun dn a W γ hT hdn hdp hJ hf hd => ?_
      obtain ⟨v8, d8, rfl⟩ := hd 8 rfl
      obtain ⟨v3, d3, rfl⟩ := hd 3 rfl
      obtain ⟨C, hC, hb, hnx⟩ := chJ_step (by decide) 1 9 rfl (Or.inr ⟨7, rfl, hdp 7 (by kernel_rfl)⟩) hdn hJ
      obtain rfl := Option.some.inj hC
      have hc := (hb.cell 3).trans (PK.x3 _)
      have hfz := hb.frozen 3
      have hs := hb.set_ 3 (.int .u32 (p.ep : Int))
      rw [PK.set3] at hs
      have HS := Lib.hid hs
      have HNX := Lib.hid hnx
      clear hs hnx hb
      exact step_skip (w' := W.setCell ⟨w.heap.size + 1, 3, none⟩ (.int .u32 (p.ep : Int))) (by simp only [execOp]; go_simp) ⟨γ, (Fr.refl (fun b => b = w.heap.size + 1) _).setCell (p := ⟨w.heap.size + 1, 3, none⟩) (fun _ => rfl) _, HNX.out _ _ rfl HS.out, trivial⟩
    · refine owes_plainG rfl fun dn a W γ hT hdn hdp hJ hf hd => ?_
      have e3 := hf 3 rfl
      exact step_val (w' := W) (by simp only [execOp]; go_simp) ⟨γ, frT_refl _ _ _, chJ_ne (by decide) hJ, rfl⟩
    · refine owes_plainG rfl fun dn a W γ hT hdn hdp hJ hf hd => ?_
      obtain ⟨v10, d10, rfl⟩ := hd 10 rfl
      obtain ⟨v5, d5, rfl⟩ := hd 5 rfl
      obtain ⟨C, hC, hb, hnx⟩ := chJ_step (by decide) 2 11 rfl (Or.inr ⟨9, rfl, hdp 9 (by kernel_rfl)⟩) hdn hJ
      obtain rfl := Option.some.inj hC
      have hc := (hb.cell 4).trans (PK.x4 _)
      have hfz := hb.frozen 4
      have hs := hb.set_ 4 (.int .u64 (p.cnt : Int))
      rw [PK.set4] at hs
      have HS := Lib.hid hs
      have HNX := Lib.hid hnx
      clear hs hnx hb
      exact step_skip (w' := W.setCell ⟨w.heap.size + 1, 4, none⟩ (.int .u64 (p.cnt : Int))) (by simp only [execOp]; go_simp) ⟨γ, (Fr.refl (fun b => b = w.heap.size + 1) _).setCell (p := ⟨w.heap.size + 1, 4, none⟩) (fun _ => rfl) _, HNX.out _ _ rfl HS.out, trivial⟩
    rintro vs w3 γ hT hb3
    have n3 : NewMem w w3 := below_fr n2 (frT_fr hT) (Nat.le_refl _) (fun k hk => by omega)
    have b0 := Lib.hid (b0.out.keep (frT_fr hT) (by omega))
    have b1 : Hid (Blk w3 (w.heap.size + 1) 27 ((⟨3, 0, p.ses, p.ep, p.cnt, Z16, Z16, [], none, 0⟩ : PK)).X) := Lib.hid hb3
    clear hT hb3 n2 c0 c1 c2 c3 c4 c37
    have c0 := (b0.out.cell 0).trans x0; have c1 := (b0.out.cell 1).trans x1; have c2 := (b0.out.cell 2).trans x2; have c3 := (b0.out.cell 3).trans x3; have c4 := (b0.out.cell 4).trans x4; have c37 := (b0.out.cell 37).trans x37
    simp only [laid, Nat.reduceAdd]
    by_cases t0 : 1 ≤ p.ses
    rotate_left
    · have HR : Unit → R = false := fun _ => by rw [← hR]; unfold rchB; rw [if_neg hk1, if_neg hk2, if_pos hk3]; simp [t0]
      have u00 : decide ((1 : Int) ≤ (p.ses : Int)) = false := by rw [decide_eq_false_iff_not]; omega
      clear hR
      go_wp2_with fail
      all_goals (go_ret; exact ⟨by rw [HR ()]; rfl, n3⟩)
    have u00 : decide ((1 : Int) ≤ (p.ses : Int)) = true := by rw [decide_eq_true_eq]; omega
    by_cases t1 : 1 ≤ p.ep
    rotate_left
    · have HR : Unit → R = false := fun _ => by rw [← hR]; unfold rchB; rw [if_neg hk1, if_neg hk2, if_pos hk3]; simp [t0, t1]
      have u10 : decide ((1 : Int) ≤ (p.ep : Int)) = false := by rw [decide_eq_false_iff_not]; omega
      clear hR
      go_wp2_with fail
      all_goals (go_ret; exact ⟨by rw [HR ()]; rfl, n3⟩)
    have u10 : decide ((1 : Int) ≤ (p.ep : Int)) = true := by rw [decide_eq_true_eq]; omega
    by_cases t2 : 1 ≤ p.cnt
    rotate_left
    · have HR : Unit → R = false := fun _ => by rw [← hR]; unfold rchB; rw [if_neg hk1, if_neg hk2, if_pos hk3]; simp [t0, t1, t2]
      have u20 : decide ((1 : Int) ≤ (p.cnt : Int)) = false := by rw [decide_eq_false_iff_not]; omega
      clear hR
      go_wp2_with fail
      all_goals (go_ret; exact ⟨by rw [HR ()]; rfl, n3⟩)
    have u20 : decide ((1 : Int) ≤ (p.cnt : Int)) = true := by rw [decide_eq_true_eq]; omega
    by_cases t3 : p.cnt ≤ 1152921504606846976
    rotate_left
    · have HR : Unit → R = false := fun _ => by rw [← hR]; unfold rchB; rw [if_neg hk1, if_neg hk2, if_pos hk3]; simp [t0, t1, t2, t3]
      have u30 : decide ((p.cnt : Int) ≤ 1152921504606846976) = false := by rw [decide_eq_false_iff_not]; omega
      clear hR
      go_wp2_with fail
      all_goals (go_ret; exact ⟨by rw [HR ()]; rfl, n3⟩)
    have u30 : decide ((p.cnt : Int) ≤ 1152921504606846976) = true := by rw [decide_eq_true_eq]; omega
    by_cases t4 : 16 ≤ p.bl.length
    rotate_left
    · have HR : Unit → R = false := fun _ => by rw [← hR]; unfold rchB; rw [if_neg hk1, if_neg hk2, if_pos hk3]; simp [t0, t1, t2, t3, t4]
      have u40 : decide ((16 : Int) ≤ (p.bl.length : Int)) = false := by rw [decide_eq_false_iff_not]; omega
      clear hR
      go_wp2_with fail
      all_goals (go_ret; exact ⟨by rw [HR ()]; rfl, n3⟩)
    have u40 : decide ((16 : Int) ≤ (p.bl.length : Int)) = true := by rw [decide_eq_true_eq]; omega
    by_cases t5 : p.bl.length ≤ 65552
    rotate_left
    · have HR : Unit → R = false := fun _ => by rw [← hR]; unfold rchB; rw [if_neg hk1, if_neg hk2, if_pos hk3]; simp [t0, t1, t2, t3, t4, t5]
      have u50 : decide ((p.bl.length : Int) ≤ 65552) = false := by rw [decide_eq_false_iff_not]; omega
      clear hR
      go_wp2_with fail
      all_goals (go_ret; exact ⟨by rw [HR ()]; rfl, n3⟩)
    have u50 : decide ((p.bl.length : Int) ≤ 65552) = true := by rw [decide_eq_true_eq]; omega
    go_wp2_with (first | (refine at_slot 110 ?_; refine wpList_load_rd_if (by first | rfl | simp [Region.wanted, yielded]) 27 _ rfl ⟨w.heap.size, 0, none⟩ rfl X.toList _ (blkC (b0.out)) Tryd.underlying27 rfl (by rw [Array.length_toList, ZX ()]; kernel_rfl) ?_; rw [Array.toArray_toList]) | (refine at_slot 111 ?_; refine wpList_load_rd_if (by first | rfl | simp [Region.wanted, yielded]) 27 _ rfl ⟨w.heap.size + 1, 0, none⟩ rfl ((⟨3, 0, p.ses, p.ep, p.cnt, Z16, Z16, [], none, 0⟩ : PK)).X.toList _ (blkC (b1.out)) Tryd.underlying27 rfl (by rw [Array.length_toList, show ((⟨3, 0, p.ses, p.ep, p.cnt, Z16, Z16, [], none, 0⟩ : PK)).X.size = 38 from PK.size (ok_cnt (ok_ep (ok_ses (kPK_ok (k := 3) ⟨by omega, by omega⟩) HP.out.ses) HP.out.ep) HP.out.cnt)]; kernel_rfl) ?_; rw [Array.toArray_toList]))
    rw [HX ()]
    refine (head_calls p ((⟨3, 0, p.ses, p.ep, p.cnt, Z16, Z16, [], none, 0⟩ : PK)) HP.out (ok_cnt (ok_ep (ok_ses (kPK_ok (k := 3) ⟨by omega, by omega⟩) HP.out.ses) HP.out.ep) HP.out.cnt) _).mono ?_
    rintro e w9 ⟨rfl, hb9⟩
    cases hh : headB p ((⟨3, 0, p.ses, p.ep, p.cnt, Z16, Z16, [], none, 0⟩ : PK))
    · have HR : Unit → R = false := fun _ => by rw [← hR]; unfold rchB; rw [if_neg hk1, if_neg hk2, if_pos hk3, WP (), hh]; simp [t0, t1, t2, t3, t4, t5]
      clear hR hh
      go_wp2_with fail
      go_ret
      exact ⟨by rw [HR ()]; rfl, NewMem.trans _ _ _ n3 hb9⟩
    · have HR : Unit → R = true := fun _ => by rw [← hR]; unfold rchB; rw [if_neg hk1, if_neg hk2, if_pos hk3, WP (), hh]; simp [t0, t1, t2, t3, t4, t5]
      clear hR hh
      go_wp2_with fail
      go_ret
      exact ⟨by rw [HR ()]; rfl, NewMem.trans _ _ _ n3 hb9⟩
  by_cases hk4 : p.kind = 4
  · rw [hk4] at x0
    have WP : Unit → wantP p = (⟨4, 0, p.ses, 0, 0, Z16, Z16, [], none, 0⟩ : PK) := fun _ => by unfold wantP; rw [if_neg hk1, if_neg hk2, if_neg hk3, if_pos hk4]
    go_enter Tryd.func26, Tryd.ntmps26
    by_cases t0 : 1 ≤ p.ses
    rotate_left
    · have HR : Unit → R = false := fun _ => by rw [← hR]; unfold rchB; rw [if_neg hk1, if_neg hk2, if_neg hk3, if_pos hk4]; simp [t0]
      have u00 : decide ((1 : Int) ≤ (p.ses : Int)) = false := by rw [decide_eq_false_iff_not]; omega
      clear hR
      go_wp2_with (first | (refine at_slot 8 ?_; refine wpList_build_to rfl 27 _ rfl (kPK 4).X (built_k _) ?_) | (refine at_store 27 ?_; refine wpList_store_row rfl 27 _ _ rfl (w.heap.size + 1) (kPK 4).X rfl rfl _ _ (Blk.newAt _ _ (by simp)) (by rw [PK.size (kPK_ok (k := 4) ⟨by omega, by omega⟩)]; kernel_rfl) (by rw [PK.size (kPK_ok (k := 4) ⟨by omega, by omega⟩)]; rfl) (PK.one _) ?_; generalize hw2 : World.setRow _ _ _ = w2; have b0 : Hid (Blk w2 w.heap.size 27 X) := Lib.hid (by rw [← hw2]; exact ((Blk.new _ _ _).alloc _).setRow_far (by omega) _); have b1 : Hid (Blk w2 (w.heap.size + 1) 27 (kPK 4).X) := Lib.hid (by rw [← hw2]; exact (Blk.newAt (w := World.alloc w _) _ zPK.X (by simp)).setRow _); have n2 : NewMem w w2 := (by rw [← hw2]; exact below_setRow_own ((NewMem.alloc _ _).more _) (by omega) _); clear hw2; have b1f := b1.out.frozen 2; have b1c := (b1.out.cell 2).trans (PK.x2 _); have c0 := (b0.out.cell 0).trans x0; have c1 := (b0.out.cell 1).trans x1; have c2 := (b0.out.cell 2).trans x2; have c3 := (b0.out.cell 3).trans x3; have c4 := (b0.out.cell 4).trans x4; have c37 := (b0.out.cell 37).trans x37))
      go_ret
      exact ⟨by rw [HR ()]; rfl, by first | exact n2 | exact n2.setCell (p := ⟨w.heap.size + 1, 2, none⟩) (Nat.le_succ _) _⟩
    have u00 : decide ((1 : Int) ≤ (p.ses : Int)) = true := by rw [decide_eq_true_eq]; omega
    by_cases t1 : p.bl.length = 0
    rotate_left
    · have HR : Unit → R = false := fun _ => by rw [← hR]; unfold rchB; rw [if_neg hk1, if_neg hk2, if_neg hk3, if_pos hk4]; simp [t0, t1]
      have u10 : ((p.bl.length : Int) == 0) = false := by rw [beq_eq_false_iff_ne]; omega
      clear hR
      go_wp2_with (first | (refine at_slot 8 ?_; refine wpList_build_to rfl 27 _ rfl (kPK 4).X (built_k _) ?_) | (refine at_store 27 ?_; refine wpList_store_row rfl 27 _ _ rfl (w.heap.size + 1) (kPK 4).X rfl rfl _ _ (Blk.newAt _ _ (by simp)) (by rw [PK.size (kPK_ok (k := 4) ⟨by omega, by omega⟩)]; kernel_rfl) (by rw [PK.size (kPK_ok (k := 4) ⟨by omega, by omega⟩)]; rfl) (PK.one _) ?_; generalize hw2 : World.setRow _ _ _ = w2; have b0 : Hid (Blk w2 w.heap.size 27 X) := Lib.hid (by rw [← hw2]; exact ((Blk.new _ _ _).alloc _).setRow_far (by omega) _); have b1 : Hid (Blk w2 (w.heap.size + 1) 27 (kPK 4).X) := Lib.hid (by rw [← hw2]; exact (Blk.newAt (w := World.alloc w _) _ zPK.X (by simp)).setRow _); have n2 : NewMem w w2 := (by rw [← hw2]; exact below_setRow_own ((NewMem.alloc _ _).more _) (by omega) _); clear hw2; have b1f := b1.out.frozen 2; have b1c := (b1.out.cell 2).trans (PK.x2 _); have c0 := (b0.out.cell 0).trans x0; have c1 := (b0.out.cell 1).trans x1; have c2 := (b0.out.cell 2).trans x2; have c3 := (b0.out.cell 3).trans x3; have c4 := (b0.out.cell 4).trans x4; have c37 := (b0.out.cell 37).trans x37))
      go_ret
      exact ⟨by rw [HR ()]; rfl, by first | exact n2 | exact n2.setCell (p := ⟨w.heap.size + 1, 2, none⟩) (Nat.le_succ _) _⟩
    have u10 : ((p.bl.length : Int) == 0) = true := by rw [beq_iff_eq]; omega
    go_wp2_with (first | (refine at_slot 8 ?_; refine wpList_build_to rfl 27 _ rfl (kPK 4).X (built_k _) ?_) | (refine at_store 27 ?_; refine wpList_store_row rfl 27 _ _ rfl (w.heap.size + 1) (kPK 4).X rfl rfl _ _ (Blk.newAt _ _ (by simp)) (by rw [PK.size (kPK_ok (k := 4) ⟨by omega, by omega⟩)]; kernel_rfl) (by rw [PK.size (kPK_ok (k := 4) ⟨by omega, by omega⟩)]; rfl) (PK.one _) ?_; generalize hw2 : World.setRow _ _ _ = w2; have b0 : Hid (Blk w2 w.heap.size 27 X) := Lib.hid (by rw [← hw2]; exact ((Blk.new _ _ _).alloc _).setRow_far (by omega) _); have b1 : Hid (Blk w2 (w.heap.size + 1) 27 (kPK 4).X) := Lib.hid (by rw [← hw2]; exact (Blk.newAt (w := World.alloc w _) _ zPK.X (by simp)).setRow _); have n2 : NewMem w w2 := (by rw [← hw2]; exact below_setRow_own ((NewMem.alloc _ _).more _) (by omega) _); clear hw2; have b1f := b1.out.frozen 2; have b1c := (b1.out.cell 2).trans (PK.x2 _); have b0s := Lib.hid (b0.out.far (p := ⟨w.heap.size + 1, 2, none⟩) (by show w.heap.size ≠ w.heap.size + 1; omega) (.int .u64 (p.ses : Int))); have b1s := (b1.out.set_ 2 (.int .u64 (p.ses : Int))); rw [PK.set2] at b1s; have n3 := Lib.hid (n2.setCell (p := ⟨w.heap.size + 1, 2, none⟩) (Nat.le_succ _) (.int .u64 (p.ses : Int))); have B1S := Lib.hid b1s; clear b1s; have c0 := (b0.out.cell 0).trans x0; have c1 := (b0.out.cell 1).trans x1; have c2 := (b0.out.cell 2).trans x2; have c3 := (b0.out.cell 3).trans x3; have c4 := (b0.out.cell 4).trans x4; have c37 := (b0.out.cell 37).trans x37) | (refine at_slot 110 ?_; refine wpList_load_rd_if (by first | rfl | simp [Region.wanted, yielded]) 27 _ rfl ⟨w.heap.size, 0, none⟩ rfl X.toList _ (blkC (b0s.out)) Tryd.underlying27 rfl (by rw [Array.length_toList, ZX ()]; kernel_rfl) ?_; rw [Array.toArray_toList]) | (refine at_slot 111 ?_; refine wpList_load_rd_if (by first | rfl | simp [Region.wanted, yielded]) 27 _ rfl ⟨w.heap.size + 1, 0, none⟩ rfl ((⟨4, 0, p.ses, 0, 0, Z16, Z16, [], none, 0⟩ : PK)).X.toList _ (blkC (B1S.out)) Tryd.underlying27 rfl (by rw [Array.length_toList, show ((⟨4, 0, p.ses, 0, 0, Z16, Z16, [], none, 0⟩ : PK)).X.size = 38 from PK.size (ok_ses (kPK_ok (k := 4) ⟨by omega, by omega⟩) HP.out.ses)]; kernel_rfl) ?_; rw [Array.toArray_toList]))
    rw [HX ()]
    refine (head_calls p ((⟨4, 0, p.ses, 0, 0, Z16, Z16, [], none, 0⟩ : PK)) HP.out (ok_ses (kPK_ok (k := 4) ⟨by omega, by omega⟩) HP.out.ses) _).mono ?_
    rintro e w9 ⟨rfl, hb9⟩
    cases hh : headB p ((⟨4, 0, p.ses, 0, 0, Z16, Z16, [], none, 0⟩ : PK))
    · have HR : Unit → R = false := fun _ => by rw [← hR]; unfold rchB; rw [if_neg hk1, if_neg hk2, if_neg hk3, if_pos hk4, WP (), hh]; simp [t0, t1]
      clear hR hh
      go_wp2_with fail
      go_ret
      exact ⟨by rw [HR ()]; rfl, NewMem.trans _ _ _ n3.out hb9⟩
    · have HR : Unit → R = true := fun _ => by rw [← hR]; unfold rchB; rw [if_neg hk1, if_neg hk2, if_neg hk3, if_pos hk4, WP (), hh]; simp [t0, t1]
      clear hR hh
      go_wp2_with fail
      go_ret
      exact ⟨by rw [HR ()]; rfl, NewMem.trans _ _ _ n3.out hb9⟩
  have HR : Unit → R = false := fun _ => by rw [← hR]; unfold rchB; rw [if_neg hk1, if_neg hk2, if_neg hk3, if_neg hk4]
  have k1 : (p.kind == 1) = false := by rw [beq_eq_false_iff_ne]; exact hk1
  have k2 : (p.kind == 2) = false := by rw [beq_eq_false_iff_ne]; exact hk2
  have k3 : (p.kind == 3) = false := by rw [beq_eq_false_iff_ne]; exact hk3
  have k4 : (p.kind == 4) = false := by rw [beq_eq_false_iff_ne]; exact hk4
  clear hR
  go_enter Tryd.func26, Tryd.ntmps26
  go_wp2_with (first | (refine at_slot 8 ?_; refine wpList_build_to rfl 27 _ rfl (kPK p.kind).X (built_k _) ?_) | (refine at_store 27 ?_; refine wpList_store_row rfl 27 _ _ rfl (w.heap.size + 1) (kPK p.kind).X rfl rfl _ _ (Blk.newAt _ _ (by simp)) (by rw [PK.size (kPK_ok HP.out.kind)]; kernel_rfl) (by rw [PK.size (kPK_ok HP.out.kind)]; rfl) (PK.one _) ?_; generalize hw2 : World.setRow _ _ _ = w2; have b0 : Hid (Blk w2 w.heap.size 27 X) := Lib.hid (by rw [← hw2]; exact ((Blk.new _ _ _).alloc _).setRow_far (by omega) _); have b1 : Hid (Blk w2 (w.heap.size + 1) 27 (kPK p.kind).X) := Lib.hid (by rw [← hw2]; exact (Blk.newAt (w := World.alloc w _) _ zPK.X (by simp)).setRow _); have n2 : NewMem w w2 := (by rw [← hw2]; exact below_setRow_own ((NewMem.alloc _ _).more _) (by omega) _); clear hw2; have c0 := (b0.out.cell 0).trans x0; have c1 := (b0.out.cell 1).trans x1; have c2 := (b0.out.cell 2).trans x2; have c3 := (b0.out.cell 3).trans x3; have c4 := (b0.out.cell 4).trans x4; have c37 := (b0.out.cell 37).trans x37))
  go_ret
  exact ⟨by rw [HR ()]; rfl, n2⟩
end Go.Proofs.YtbhaekdfpfncnaaDoor
