/- shake.Secret. -/
import Derived.Test.YtbhaekdfpfncnaaDoorShE
import Derived.Test.YtbhaekdfpfncnaaDoorSinkA
import Derived.Test.YtbhaekdfpfncnaaDoorKeep
namespace Go.Proofs.YtbhaekdfpfncnaaDoor
set_option linter.unusedVariables false
set_option linter.unusedSimpArgs false
open Go.RowKit

theorem own_new {w w' : World} {base size n : Nat} {e : TypeId} {v : Value} {xs : List Value} (h : w.ownsRow base e size v n xs) (hn : NewMem w w') : w'.ownsRow base e size v n xs :=
  ⟨h.1, h.2.imp id fun ⟨g, cap, cur, e1, e2, e3, r⟩ => ⟨g, cap, cur, e1, e2, (hn.block g (by
    rcases Nat.lt_or_ge g w.heap.size with h | h
    · exact h
    · rw [Array.getElem?_eq_none h] at e3
      cases e3)).trans e3, r⟩⟩
def PrG.emptN (B : Nat) : PrG newT := ⟨fun v w _ => ∃ b, v = .slice (some b) 0 0 ∧ w.ownsRow B 5 1 v 0 [], fun _ _ _ _ _ ⟨b, e, h⟩ ht => ⟨b, e, own_new h ht⟩⟩
def PrG.ownN (B : Nat) (l : List UInt8) : PrG newT := ⟨fun v w _ => ∃ b c, v = .slice (some b) l.length c ∧ w.ownsRow B 5 1 v l.length (bc l), fun _ _ _ _ _ ⟨b, c, e, h⟩ ht => ⟨b, c, e, own_new h ht⟩⟩
def PrG.fullN (l : List UInt8) : PrG newT := ⟨fun v w _ => ∃ b, v = .slice (some b) l.length l.length ∧ Rd w (fun _ => True) (some b) (bc l), fun _ _ _ _ _ ⟨b, e, h⟩ ht => ⟨b, e, h.below ht⟩⟩
theorem blk_below {w w' : World} {B g : Nat} {t : TypeId} {cs : Array Value} (h : Blk w g t cs) (hb : Below B w w') (hg : g < B) : Blk w' g t cs := (hb.block g hg).trans h
def tSec : List UInt8 := [115, 101, 99, 114, 101, 116]
/-- The secret of a hello and an answer. -/
def secF (key : List UInt8) (h a : PK) : List UInt8 := hkey (h.rnd ++ a.rnd) key (tSec ++ be 8 a.ses)
theorem secF_length (key : List UInt8) (h a : PK) : (secF key h a).length = 32 := hkey_length _ _ _
theorem info_u8' : (Tryd.prog.info? 5).map (fun i => (i.zero, i.size, i.bytes)) = some (some (.int .u8 0), 1, 1) := by kernel_rfl

set_option maxHeartbeats 4000000 in
theorem secret_calls (key : List UInt8) (hk : key.length = 32) (h p : PK) (hh : h.ok) (hp : p.ok) (w : World) (hG : Glb w) :
    Calls Tryd.prog 19 #[.agg (bc key).toArray, .agg h.X, .agg p.X] w fun e w' => e = .returned (.agg (bc (secF key h p)).toArray) ∧ Below w.heap.size w w' := by
  have HG := Lib.hid hG
  have HK := fun _ : Unit => hk
  have p2 := p.x2
  have hxr := fun _ : Unit => PK.xr hh
  have pxr := fun _ : Unit => PK.xr hp
  have hrl := fun _ : Unit => hh.rnd
  have prl := fun _ : Unit => hp.rnd
  have hsl := hp.ses
  obtain ⟨i0, hi0, hz0, hz1, hz2⟩ := info_parts info_u8'
  obtain ⟨z, hz⟩ : ∃ z, z = secF key h p := ⟨_, rfl⟩
  have hzl : z.length = 32 := by rw [hz]; exact secF_length _ _ _
  have HZ := fun _ : Unit => hz
  have HZL := fun _ : Unit => hzl
  obtain ⟨X, hX⟩ : ∃ X, X = h.X := ⟨_, rfl⟩
  obtain ⟨Y, hY⟩ : ∃ Y, Y = p.X := ⟨_, rfl⟩
  rw [← hX] at hxr ⊢
  rw [← hY] at p2 pxr ⊢
  clear hG hk hz hzl hh hp hX hY
  go_enter Tryd.func19, Tryd.ntmps19
  go_wp2_with fail
  generalize hw1 : World.alloc (World.alloc (World.alloc (World.alloc w _) _) _) _ = w1
  have b0 : Hid (Blk w1 w.heap.size 31 (bc key).toArray) := by show Blk _ _ _ _; rw [← hw1]; exact (((Blk.new _ _ _).alloc _).alloc _).alloc _
  have b1 : Hid (Blk w1 (w.heap.size + 1) 27 X) := by show Blk _ _ _ _; rw [← hw1]; exact ((Blk.newAt _ _ (by simp)).alloc _).alloc _
  have b2 : Hid (Blk w1 (w.heap.size + 2) 27 Y) := by show Blk _ _ _ _; rw [← hw1]; exact (Blk.newAt _ _ (by simp)).alloc _
  have b3 : Hid (Blk w1 (w.heap.size + 3) 31 (bc (List.replicate 32 0)).toArray) := by show Blk _ _ _ _; rw [← hw1, z32]; exact Blk.newAt _ _ (by simp)
  have n1 : NewMem w w1 := by rw [← hw1]; exact (((NewMem.alloc _ _).more _).more _).more _
  have hB : w1.heap.size = w.heap.size + 4 := by rw [← hw1]; simp
  clear hw1
  refine region_assign (T0 := newT) newT_trans newT_refl () 6 14 (fun v W γ W' => ∃ A c, v = .slice A (h.rnd ++ p.rnd).length c ∧ Rd W' (fun _ => True) A (bc (h.rnd ++ p.rnd)) ∧ (h.rnd ++ p.rnd).length ≤ c ∧ Below w1.heap.size W W') noJ trivial
    [.emptN w1.heap.size, .is (.pointer (some ⟨w.heap.size + 1, 5, none⟩)), .is (.slice (some ⟨w.heap.size + 1, 5, none⟩) 16 16), .ownN w1.heap.size h.rnd, .is (.pointer (some ⟨w.heap.size + 2, 5, none⟩)), .is (.slice (some ⟨w.heap.size + 2, 5, none⟩) 16 16)] (by kernel_rfl) (by kernel_rfl) (by kernel_rfl) (by kernel_rfl) ?_ ?_ ?_
  · refine ⟨?_, ?_, ?_, ?_, ?_, ?_, trivial⟩
    · refine owes_plainG rfl fun dn a W γ hT hdn hdp hJ hf hd => ?_
      have hsz : w1.heap.size ≤ W.heap.size := (newT_nm hT).size
      refine step_val (w' := W.alloc (.cells #[] 5)) (v := .slice (some ⟨W.heap.size, 0, none⟩) 0 0) (by simp only [execOp]; go_simp) ⟨γ, NewMem.alloc _ _, trivial, _, rfl, World.ownsRow_made W #[] 0 hsz (by decide) rfl⟩
    · refine owes_plainG rfl fun dn a W γ hT hdn hdp hJ hf hd => ?_
      have e4 := hf 4 rfl
      exact step_val (w' := W) (by simp only [execOp]; go_simp) ⟨γ, newT_refl _ _, trivial, rfl⟩
    · refine owes_plainG rfl fun dn a W γ hT hdn hdp hJ hf hd => ?_
      obtain ⟨v1, d1, rfl⟩ := hd 1 rfl
      exact step_val (w' := W) (by simp only [execOp]; go_simp) ⟨γ, newT_refl _ _, trivial, rfl⟩
    · refine owes_plainG rfl fun dn a W γ hT hdn hdp hJ hf hd => ?_
      obtain ⟨v0, d0, b, rfl, ho⟩ := hd 0 rfl
      obtain ⟨v2, d2, rfl⟩ := hd 2 rfl
      have hb1 := b1.out.below (newT_nm hT)
      have hr := rd_blk_at hb1 5 _ (hxr ())
      have hsz : w1.heap.size ≤ W.heap.size := (newT_nm hT).size
      obtain ⟨b', c', w', hrun, _, _, hnm⟩ := run_append_full (P := Tryd.prog) W 25 25 5 i0 _ Tryd.underlying25 hi0 hz0 hz1 hz2 rfl b [] (fun _ => True) (Rd.nil _ _ _) _ 16 h.rnd _ hr (by rw [hrl ()]; decide)
      obtain ⟨v', w'', hrun2, hown, _, _⟩ := run_append_rd (P := Tryd.prog) W w1.heap.size 25 25 5 i0 _ 1 Tryd.underlying25 hi0 hz0 hz1 hz2 rfl (.slice (some b) 0 0) 0 [] ho _ _ 16 (bc h.rnd) hr (bc_one _) (by rw [bc_length, hrl ()]; decide) (by rw [bc_length, hrl ()]; decide) hsz
      rw [bc_length] at hrun2 hown
      have hq := hrun.symm.trans hrun2
      injection hq with hq1 hq2
      subst hq1 hq2
      rw [hrl ()] at hrun
      exact step_val (w' := w') (v := .slice (some b') ([] ++ h.rnd).length c') (exec_append (.tmp 8) (.tmp 10) _ rfl ((eval_slot a 8).trans d0) ((eval_slot a 10).trans d2) hrun) ⟨γ, hnm, trivial, b', c', rfl, by simpa using hown⟩
    · refine owes_plainG rfl fun dn a W γ hT hdn hdp hJ hf hd => ?_
      have e5 := hf 5 rfl
      exact step_val (w' := W) (by simp only [execOp]; go_simp) ⟨γ, newT_refl _ _, trivial, rfl⟩
    · refine owes_plainG rfl fun dn a W γ hT hdn hdp hJ hf hd => ?_
      obtain ⟨v4, d4, rfl⟩ := hd 4 rfl
      exact step_val (w' := W) (by simp only [execOp]; go_simp) ⟨γ, newT_refl _ _, trivial, rfl⟩
  · intro o a W γ ho hT hf hs
    obtain ⟨hop, hty, hd3, hd5⟩ : o.op = .call { callee := .builtin .append, args := #[.tmp 11, .tmp 13], argTypes := #[25, 25] } ∧ o.type = 25 ∧ depB o 3 = true ∧ depB o 5 = true := by
      obtain ⟨o', ho', h⟩ : ∃ o', o = o' ∧ (o'.op = .call { callee := .builtin .append, args := #[.tmp 11, .tmp 13], argTypes := #[25, 25] } ∧ o'.type = 25 ∧ depB o' 3 = true ∧ depB o' 5 = true) := ⟨_, Option.some.inj (ho.symm.trans rfl), rfl, rfl, rfl, rfl⟩
      rw [ho']
      exact h
    obtain ⟨v3, d3, b, c, rfl, hown⟩ := hs 3 (by omega) hd3
    obtain ⟨v5, d5, rfl⟩ := hs 5 (by omega) hd5
    have hb2 := b2.out.below (newT_nm hT)
    have hr := rd_blk_at hb2 5 _ (pxr ())
    have hsz : w1.heap.size ≤ W.heap.size := (newT_nm hT).size
    obtain ⟨v', w', hrun, hown2, hg, hat⟩ := run_append_rd (P := Tryd.prog) W w1.heap.size 25 25 5 i0 _ 1 Tryd.underlying25 hi0 hz0 hz1 hz2 rfl _ _ _ hown _ _ 16 (bc p.rnd) hr (bc_one _) (by rw [bc_length, prl (), hrl ()]; decide) (by rw [bc_length, prl (), hrl ()]; decide) hsz
    obtain ⟨A', c', rfl, hle⟩ := own_shape hown2
    rw [bc_length, prl ()] at hrun
    refine step_val (w' := w') (exec_append (.tmp 11) (.tmp 13) _ hop ((eval_slot a 11).trans d3) ((eval_slot a 13).trans d5) (by rw [hty]; exact hrun)) ⟨A', c', by simp [prl ()], ?_, ?_, ?_⟩
    · have := Rd.of_own hown2 (by decide)
      simpa [bc] using this.mono fun _ _ _ => trivial
    · simpa using hle.1
    · refine ⟨hg.os, hg.tape, hg.output, hg.size, fun k hk => hg.block k (by omega) fun he => ?_⟩
      obtain ⟨g, cap, cur, e1, e2, _⟩ := hown.2.resolve_left fun h => by cases h.1
      injection e1 with e1
      rw [e1] at he
      simp [Value.ownBlock] at he
      omega
  · rintro vs W γ W' hT ⟨A, c, hv, hr, hc, hb⟩
    have hNW := newT_nm hT
    have hbb : Below w1.heap.size w1 W' := Below.trans hNW hb
    have b0 := Lib.hid (blk_below b0.out hbb (by omega))
    have b2 := Lib.hid (blk_below b2.out hbb (by omega))
    have b3 := Lib.hid (blk_below b3.out hbb (by omega))
    have HG := Lib.hid ((HG.out.below n1).below hbb)
    have n2 : NewMem w W' := below_then n1 hbb (by omega)
    have hR := Lib.hid hr
    obtain ⟨r, hrr⟩ : ∃ r, r = h.rnd ++ p.rnd := ⟨_, rfl⟩
    have hrl2 : r.length = 32 := by rw [hrr, List.length_append, hrl (), prl ()]
    have hz2 : z = hkey r key (tSec ++ be 8 p.ses) := by rw [HZ (), hrr]; rfl
    have HZ2 := fun _ : Unit => hz2
    have HRL := fun _ : Unit => hrl2
    rw [← hrr] at hR hc hv
    simp only [laid, Nat.reduceAdd, hv]
    clear hbb hb hNW hT hr hv hrr hrl2 hz2
    go_wp2_with fail
    refine region_sink (T0 := keepT W'.heap.size) (keepT_trans _) (keepT_refl _) () 9 (fun W2 γ W3 => W3 = W2.setRow (w.heap.size + 3) (bc z).toArray) noJ trivial
      [.is (.slice A r.length c), .is (.slice (some ⟨w.heap.size, 0, none⟩) 32 32), .rowK W'.heap.size tSec, .rowK W'.heap.size tSec, .is (.pointer (some ⟨w.heap.size + 2, 2, none⟩)), .is (.int .u64 (p.ses : Int)),   .bytesK W'.heap.size (be 8 p.ses),   .bytesK W'.heap.size (tSec ++ be 8 p.ses), .is (.agg (bc z).toArray)] (by kernel_rfl) (by kernel_rfl) (by kernel_rfl) (by kernel_rfl) ?_ ?_ ?_
    · refine ⟨?_, ?_, ?_, ?_, ?_, ?_, ?_, ?_, ?_, trivial⟩
      · refine owes_plainG rfl fun dn a W γ hT hdn hdp hJ hf hd => ?_
        have e7 := hf 7 rfl
        exact step_val (w' := W) (by simp only [execOp]; go_simp) ⟨γ, keepT_refl _ _ _, trivial, rfl⟩
      · refine owes_plainG rfl fun dn a W γ hT hdn hdp hJ hf hd => ?_
        have e3 := hf 3 rfl
        exact step_val (w' := W) (by simp only [execOp]; go_simp) ⟨γ, keepT_refl _ _ _, trivial, rfl⟩
      · refine owes_plainG rfl fun dn a W γ hT hdn hdp hJ hf hd => ?_
        refine step_val (w' := W.alloc (.cells (bc tSec).toArray 5)) (v := .slice (some ⟨W.heap.size, 0, none⟩) 6 6) (by simp only [execOp]; go_simp; rfl) ⟨γ, keepT_new (NewMem.alloc _ _) (keepT_size hT rfl), trivial, _, rfl, (rd_blk (Blk.new _ _ _)).mono fun _ _ _ => trivial, keepT_size hT rfl, by unfold World.shape?; rw [heap_alloc_new]; rfl⟩
      · refine owes_plainG rfl fun dn a W γ hT hdn hdp hJ hf hd => ?_
        obtain ⟨v2, d2, b, rfl, hr, hbb, hsh⟩ := hd 2 rfl
        have hcs := run_conv_same (P := Tryd.prog) W 25 5 b tSec.length tSec.length _ Tryd.underlying25 Tryd.underlying5 hsh
        have hkt : keepT W'.heap.size W γ (W.freeze ⟨b, tSec.length, none⟩ 1) γ := ⟨freeze_below (Below.refl _ _) hbb _, fun _ _ h => freeze_cell h, fun _ _ h => freeze_shape h⟩
        exact step_val (v := .slice (some ⟨b, 0, none⟩) tSec.length tSec.length) (by simp only [execOp]; go_simp) ⟨γ, hkt, trivial, b, rfl, hr.keepT hkt, hbb, hkt.2.2 _ _ hsh⟩
      · refine owes_plainG rfl fun dn a W γ hT hdn hdp hJ hf hd => ?_
        have e5 := hf 5 rfl
        exact step_val (w' := W) (by simp only [execOp]; go_simp) ⟨γ, keepT_refl _ _ _, trivial, rfl⟩
      · refine owes_plainG rfl fun dn a W γ hT hdn hdp hJ hf hd => ?_
        obtain ⟨v4, d4, rfl⟩ := hd 4 rfl
        have hc := ((b2.out.below (keepT_nm hT)).cell 2).trans p2
        exact step_val (w' := W) (by simp only [execOp]; go_simp) ⟨γ, keepT_refl _ _ _, trivial, rfl⟩
      · refine owes_plainG rfl fun dn a W γ hT hdn hdp hJ hf hd => ?_
        obtain ⟨v5, d5, rfl⟩ := hd 5 rfl
        refine step_call (w' := W) (f := 31) (args := #[.int .u64 (p.ses : Int)]) (by simp only [execOp]; go_simp) ((high64_calls _ W hsl).mono ?_)
        rintro e w' ⟨rfl, hb, hn⟩
        exact ⟨_, rfl, γ, keepT_new hn (keepT_size hT rfl), trivial, _, _, by rw [be_length], (rd_blk hb).mono fun _ _ _ => trivial, by rw [be_length]; exact Nat.le_refl _⟩
      · refine owes_plainG rfl fun dn a W γ hT hdn hdp hJ hf hd => ?_
        obtain ⟨v3, d3, b, rfl, hr3, _, _⟩ := hd 3 rfl
        obtain ⟨v6, d6, A6, c6, rfl, r6, k6⟩ := hd 6 rfl
        obtain ⟨b', c', w', hrun, hr', hc', hnm⟩ := run_append_full (P := Tryd.prog) W 25 25 5 i0 _ Tryd.underlying25 hi0 hz0 hz1 hz2 rfl _ tSec _ hr3 A6 c6 (be 8 p.ses) _ r6 (by rw [be_length]; decide)
        exact step_val (w' := w') (exec_append (.tmp 18) (.tmp 21) _ rfl ((eval_slot a 18).trans d3) ((eval_slot a 21).trans d6) hrun) ⟨γ, keepT_new hnm (keepT_size hT rfl), trivial, _, _, rfl, hr', hc'⟩
      · refine owes_plainG rfl fun dn a W γ hT hdn hdp hJ hf hd => ?_
        obtain ⟨v0, d0, rfl⟩ := hd 0 rfl
        obtain ⟨v1, d1, rfl⟩ := hd 1 rfl
        obtain ⟨v7, d7, A7, c7, rfl, r7, k7⟩ := hd 7 rfl
        refine step_call (w' := W) (f := 30) (args := #[.slice A r.length c, .slice (some ⟨w.heap.size, 0, none⟩) 32 32, .slice A7 (tSec ++ be 8 p.ses).length c7]) (by simp only [execOp]; go_simp) ?_
        have hk32 : (32 : Nat) = key.length := (HK ()).symm
        rw [show (Value.slice (some ⟨w.heap.size, 0, none⟩) 32 32) = Value.slice (some ⟨w.heap.size, 0, none⟩) key.length key.length from by rw [HK ()]]
        refine (hkey_calls A r c (some ⟨w.heap.size, 0, none⟩) key key.length A7 (tSec ++ be 8 p.ses) c7 W (fun _ => True) (hR.out.below (keepT_nm hT)) hc ((rd_blk (b0.out.below (keepT_nm hT))).mono fun _ _ _ => trivial) (Nat.le_refl _) r7 k7 (HG.out.below (keepT_nm hT)) (by rw [HRL ()]; decide) (by rw [HK ()]; decide) (by rw [List.length_append, be_length]; decide)).mono ?_
        rintro e w' ⟨rfl, hb⟩
        exact ⟨_, rfl, γ, keepT_new hb (keepT_size hT rfl), trivial, by rw [HZ2 ()]; rfl⟩
    · intro o a W2 γ2 ho hT hf hs
      obtain ⟨v8, d8, rfl⟩ := hs 8 (by omega)
      have e6 := hf 6 rfl
      have HZS : (bc z).toArray.size = 32 := by rw [List.size_toArray, bc_length, HZL ()]
      obtain ⟨o', ho', hop⟩ : ∃ o', o = o' ∧ o'.op = .store 31 (.tmp 6) (.tmp 23) := ⟨_, Option.some.inj (ho.symm.trans rfl), rfl⟩
      subst ho'
      exact fun K hK => wp_store_row 31 _ _ hop (w.heap.size + 3) _ ((eval_slot _ 6).trans e6) ((eval_slot _ 23).trans d8) _ _ (b3.out.below (keepT_nm hT)) (by rw [HZS]; kernel_rfl) (by rw [HZS]; rfl) (bc_all _) (hK undef _ rfl)
    · rintro vs2 W2 γ2 W3 hT hp rfl
      have hN := keepT_nm hT
      have hZS := fun _ : Unit => (show (bc z).toArray.size = 32 by rw [List.size_toArray, bc_length, HZL ()])
      simp only [laid, Nat.reduceAdd]
      go_wp2_with fail
      refine bodyPost_ret (results_cell_row rfl _ _ (w.heap.size + 3) 31 (bc z).toArray (0, 0) _ rfl ((b3.out.below hN).setRow _) Tryd.underlying31 rfl (by rw [hZS ()]; kernel_rfl)) rfl ?_
      exact ⟨by rw [HZ ()], below_setRow_own (NewMem.trans _ _ _ n2 hN) (by omega) _⟩
end Go.Proofs.YtbhaekdfpfncnaaDoor
