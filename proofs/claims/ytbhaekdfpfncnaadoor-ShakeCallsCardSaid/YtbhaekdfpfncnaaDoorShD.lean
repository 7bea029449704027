/- shake.CheckHello. -/
import Derived.Test.YtbhaekdfpfncnaaDoorShC
namespace Go.Proofs.YtbhaekdfpfncnaaDoor
set_option linter.unusedVariables false
set_option linter.unusedSimpArgs false
open Go.RowKit

def helF (key : List UInt8) (n : Int) (rnd : List UInt8) : List UInt8 := markF key tHel.data.toList (be 4 (peerN n) ++ rnd)
theorem helF_length (key : List UInt8) (n : Int) (rnd : List UInt8) : (helF key n rnd).length = 16 := markF_length _ _ _
/-- What CheckHello says. -/
def chN (key : List UInt8) (p : PK) : Int := if chkB p then (if p.kind = 1 then (if p.mrk = helF key p.peer p.rnd then 0 else 12) else 2) else 2

theorem heap_new2 (w : World) (o : Obj) (cs : Array Value) (t : TypeId) : ((w.alloc o).alloc (.cells cs t)).heap[w.heap.size + 1]? = some (.cells cs t (0, 0)) := Blk.newAt _ _ (by simp)
set_option maxHeartbeats 4000000 in
theorem chello_calls (key : List UInt8) (hk : key.length = 32) (p : PK) (hp : p.ok) (w : World) (hG : Glb w) :
    Calls Tryd.prog 12 #[.agg (bc key).toArray, .agg p.X] w fun e w' => e = .returned (.int .i64 (chN key p)) ∧ Below w.heap.size w w' := by
  have HG := Lib.hid hG
  have HK := fun _ : Unit => hk
  have HP := fun _ : Unit => hp
  have hsz := PK.size hp
  have HSZ := fun _ : Unit => hsz
  have h0 := p.x0
  have h1 := p.x1
  have hxr := fun _ : Unit => PK.xr hp
  have hxm := fun _ : Unit => PK.xm hp
  have hrl := fun _ : Unit => hp.rnd
  have hml := fun _ : Unit => hp.mrk
  obtain ⟨z, hz⟩ : ∃ z, z = helF key p.peer p.rnd := ⟨_, rfl⟩
  have hzl : z.length = 16 := by rw [hz]; exact helF_length _ _ _
  have HZ := fun _ : Unit => hz
  have HZL := fun _ : Unit => hzl
  have hpn := peerN_eq p.peer
  have hpl := peerN_lt p.peer
  obtain ⟨X, hX⟩ : ∃ X, X = p.X := ⟨_, rfl⟩
  have HX := fun _ : Unit => hX
  rw [← hX] at h0 h1 hxr hxm HSZ ⊢
  clear hG hk hz hzl hp hX hsz
  go_enter Tryd.func12, Tryd.ntmps12
  go_wp2_with (refine wpList_load_row rfl 27 _ rfl (w.heap.size + 1) rfl _ X (0, 0) _ (heap_new2 w _ _ _) Tryd.underlying27 rfl (by rw [HSZ ()]; kernel_rfl) ?_)
  generalize hw1 : World.alloc (World.alloc w _) _ = w1
  have b0 : Hid (Blk w1 w.heap.size 31 (bc key).toArray) := by show Blk _ _ _ _; rw [← hw1]; exact (Blk.new _ _ _).alloc _
  have b1 : Hid (Blk w1 (w.heap.size + 1) 27 X) := by show Blk _ _ _ _; rw [← hw1]; exact Blk.newAt _ _ (by simp)
  have n1 : NewMem w w1 := by rw [← hw1]; exact (NewMem.alloc _ _).more _
  clear hw1
  rw [HX ()]
  refine (check_calls p (HP ()) _).mono ?_
  rw [← HX ()]
  rintro e w2 ⟨rfl, hb2⟩
  have b0 := Lib.hid (b0.out.below hb2)
  have b1 := Lib.hid (b1.out.below hb2)
  have n2 : NewMem w w2 := NewMem.trans _ _ _ n1 hb2
  clear n1 hb2
  have hch : chN key p = if chkB p then (if p.kind = 1 then (if p.mrk = z then 0 else 12) else 2) else 2 := by rw [HZ ()]; rfl
  have HCH := fun _ : Unit => hch
  clear hch
  cases hcb : chkB p
  · have HCB := fun _ : Unit => hcb
    clear hcb
    simp only [resN]
    go_wp2_with fail
    go_ret
    exact ⟨by rw [HCH (), HCB ()]; rfl, n2⟩
  have HCB := fun _ : Unit => hcb
  clear hcb
  simp only [resN]
  by_cases hk1 : p.kind = 1
  rotate_left
  · have HK1 := fun _ : Unit => hk1
    have hq := (b1.out.cell 0).trans h0
    go_wp2_with fail
    go_ret
    exact ⟨by rw [HCH (), HCB (), if_pos rfl, if_neg (HK1 ())]; rfl, n2⟩
  have HK1 := fun _ : Unit => hk1
  rw [hk1] at h0
  have hq := (b1.out.cell 0).trans h0
  clear hk1
  go_wp2_with fail
  clear hq
  refine region_toG (T := newT) (J := noJ) newT_trans newT_refl () (fun vs W γ => vs 11 = .bool (!decide (p.mrk = z))) (by kernel_rfl) (by kernel_rfl) (by kernel_rfl) trivial ⟨prOfG
    [.is (.pointer (some ⟨w.heap.size + 1, 21, none⟩)), .is (.agg (bc p.mrk).toArray), .is (.agg (bc key).toArray), .is (.pointer (some ⟨w.heap.size + 1, 1, none⟩)), .is (.int .i64 p.peer), .is (.int .u32 (peerN p.peer : Int)), .bytesN (be 4 (peerN p.peer)), .is (.pointer (some ⟨w.heap.size + 1, 5, none⟩)), .is (.slice (some ⟨w.heap.size + 1, 5, none⟩) 16 16), .listsN [be 4 (peerN p.peer), p.rnd], .is (.agg (bc z).toArray), .is (.bool (!decide (p.mrk = z)))], prOfG_st _, no_none (by kernel_rfl), ⟨?_, ?_, ?_, ?_, ?_, ?_, ?_, ?_, ?_, ?_, ?_, ?_, trivial⟩, fun vs W γ hT hJ hp => hp 11 rfl⟩ ?_
  · refine owes_plainG rfl fun dn a W γ hT hdn hdp hJ hf hd => ?_
    have e3 := hf 3 rfl
    exact step_val (w' := W) (by simp only [execOp]; go_simp) ⟨γ, newT_refl _ _, trivial, rfl⟩
  · refine owes_plainG rfl fun dn a W γ hT hdn hdp hJ hf hd => ?_
    obtain ⟨v0, d0, rfl⟩ := hd 0 rfl
    have hb := b1.out.below (newT_nm hT)
    exact step_load_at 24 _ rfl ((eval_slot _ 14).trans d0) (rd_blk_at hb 21 _ (hxm ())) Tryd.underlying24 rfl (by rw [bc_length, hml ()]; kernel_rfl) ⟨γ, newT_refl _ _, trivial, rfl⟩
  · refine owes_plainG rfl fun dn a W γ hT hdn hdp hJ hf hd => ?_
    have e2 := hf 2 rfl
    have hb := b0.out.below (newT_nm hT)
    exact step_load_row 31 _ rfl ((eval_slot _ 2).trans e2) hb Tryd.underlying31 rfl (by rw [List.size_toArray, bc_length, HK ()]; kernel_rfl) ⟨γ, newT_refl _ _, trivial, rfl⟩
  · refine owes_plainG rfl fun dn a W γ hT hdn hdp hJ hf hd => ?_
    have e3 := hf 3 rfl
    exact step_val (w' := W) (by simp only [execOp]; go_simp) ⟨γ, newT_refl _ _, trivial, rfl⟩
  · refine owes_plainG rfl fun dn a W γ hT hdn hdp hJ hf hd => ?_
    obtain ⟨v3, d3, rfl⟩ := hd 3 rfl
    have hc := ((b1.out.below (newT_nm hT)).cell 1).trans h1
    exact step_val (w' := W) (by simp only [execOp]; go_simp) ⟨γ, newT_refl _ _, trivial, rfl⟩
  · refine owes_plainG rfl fun dn a W γ hT hdn hdp hJ hf hd => ?_
    obtain ⟨v4, d4, rfl⟩ := hd 4 rfl
    have hwr : IntKind.u32.wrap p.peer = (peerN p.peer : Int) := by rw [hpn]; rfl
    exact step_val (w' := W) (by simp only [execOp]; go_simp) ⟨γ, newT_refl _ _, trivial, rfl⟩
  · refine owes_plainG rfl fun dn a W γ hT hdn hdp hJ hf hd => ?_
    obtain ⟨v5, d5, rfl⟩ := hd 5 rfl
    refine step_call (w' := W) (f := 24) (args := #[.int .u32 (peerN p.peer : Int)]) (by simp only [execOp]; go_simp) ((high32_calls _ W hpl).mono ?_)
    rintro e w' ⟨rfl, hb, hn⟩
    exact ⟨_, rfl, γ, hn, trivial, _, _, by rw [be_length], (rd_blk hb).mono fun _ _ _ => trivial, by rw [be_length]; exact Nat.le_refl _⟩
  · refine owes_plainG rfl fun dn a W γ hT hdn hdp hJ hf hd => ?_
    have e3 := hf 3 rfl
    exact step_val (w' := W) (by simp only [execOp]; go_simp) ⟨γ, newT_refl _ _, trivial, rfl⟩
  · refine owes_plainG rfl fun dn a W γ hT hdn hdp hJ hf hd => ?_
    obtain ⟨v7, d7, rfl⟩ := hd 7 rfl
    exact step_val (w' := W) (by simp only [execOp]; go_simp) ⟨γ, newT_refl _ _, trivial, rfl⟩
  · refine owes_plainG rfl fun dn a W γ hT hdn hdp hJ hf hd => ?_
    obtain ⟨v6, d6, A6, c6, rfl, r6, k6⟩ := hd 6 rfl
    obtain ⟨v8, d8, rfl⟩ := hd 8 rfl
    have hb1 := b1.out.below (newT_nm hT)
    refine step_val (w' := W.alloc (.cells #[.slice A6 (be 4 (peerN p.peer)).length c6, .slice (some ⟨w.heap.size + 1, 5, none⟩) 16 16] 25)) (v := .slice (some ⟨W.heap.size, 0, none⟩) 2 2) (by simp only [execOp]; go_simp) ⟨γ, NewMem.alloc _ _, trivial, _, _, rfl, ?_, Nat.le_refl _⟩
    exact (rdl_two_eq (F := fun _ => True) 25 (r6.mono fun _ _ _ => trivial) k6 ((rd_blk_at hb1 5 _ (hxr ())).mono fun _ _ _ => trivial) (by rw [hrl ()]; exact Nat.le_refl _) rfl rfl (hrl ()).symm)
  · refine owes_plainG rfl fun dn a W γ hT hdn hdp hJ hf hd => ?_
    obtain ⟨v2, d2, rfl⟩ := hd 2 rfl
    obtain ⟨v9, d9, A9, c9, rfl, r9, k9⟩ := hd 9 rfl
    refine step_call (w' := W) (f := 17) (args := #[.agg (bc key).toArray, .string tHel, .slice A9 2 c9]) (by simp only [execOp]; go_simp; rfl) ?_
    refine (smark_calls key (HK ()) tHel (by decide) A9 [be 4 (peerN p.peer), p.rnd] c9 W (fun _ => True) r9 k9 ((HG.out.below n2).below (newT_nm hT)) (by simp [be_length, hrl ()]) (by simp)).mono ?_
    rintro e w' ⟨rfl, hb⟩
    exact ⟨_, rfl, γ, hb, trivial, by rw [HZ ()]; show _ = Value.agg (bc (helF key p.peer p.rnd)).toArray; unfold helF; rw [show [be 4 (peerN p.peer), p.rnd].flatten = be 4 (peerN p.peer) ++ p.rnd from by simp]⟩
  · refine owes_plainG rfl fun dn a W γ hT hdn hdp hJ hf hd => ?_
    obtain ⟨v1, d1, rfl⟩ := hd 1 rfl
    obtain ⟨v10, d10, rfl⟩ := hd 10 rfl
    have hq := eq16 W p.mrk z (hml ()) (HZL ())
    exact step_val (w' := W) (by simp only [execOp]; go_simp) ⟨γ, newT_refl _ _, trivial, rfl⟩
  · intro vs W γ hT hvs
    have n3 : NewMem w W := NewMem.trans _ _ _ n2 (newT_nm hT)
    simp only [laid, Nat.reduceAdd, hvs]
    clear hvs hT
    by_cases hm : p.mrk = z
    · have HM := fun _ : Unit => hm
      rw [decide_eq_true hm]
      clear hm
      simp only [Bool.not_true]
      go_wp2_with fail
      go_ret
      exact ⟨by rw [HCH (), HCB (), if_pos rfl, if_pos (HK1 ()), if_pos (HM ())]; rfl, n3⟩
    · have HM := fun _ : Unit => hm
      rw [decide_eq_false hm]
      clear hm
      simp only [Bool.not_false]
      go_wp2_with fail
      go_ret
      exact ⟨by rw [HCH (), HCB (), if_pos rfl, if_pos (HK1 ()), if_neg (HM ())]; rfl, n3⟩
end Go.Proofs.YtbhaekdfpfncnaaDoor
