/- shake.CheckAnswer. -/
import Derived.Test.YtbhaekdfpfncnaaDoorShF
namespace Go.Proofs.YtbhaekdfpfncnaaDoor
set_option linter.unusedVariables false
set_option linter.unusedSimpArgs false
open Go.RowKit

def Z32 : List UInt8 := List.replicate 32 0
/-- What CheckAnswer says, and the secret that it hands out. -/
def caN (key : List UInt8) (h a : PK) : Int := if chN key h = 0 then (if chkB a then (if a.kind = 2 then (if a.mrk = ansF key h a then 0 else 12) else 2) else 2) else chN key h
def caS (key : List UInt8) (h a : PK) : List UInt8 := if caN key h a = 0 then secF key h a else Z32
theorem caS_length (key : List UInt8) (h a : PK) : (caS key h a).length = 32 := by
  unfold caS
  split
  · exact secF_length _ _ _
  · rfl
theorem built_z32 : Program.built Tryd.prog 31 [] = some (bc Z32).toArray := by kernel_rfl

set_option maxHeartbeats 4000000 in
theorem canswer_calls (key : List UInt8) (hk : key.length = 32) (h p : PK) (hh : h.ok) (hp : p.ok) (w : World) (hG : Glb w) :
    Calls Tryd.prog 10 #[.agg (bc key).toArray, .agg h.X, .agg p.X] w fun e w' => e = .returned (.tuple #[.agg (bc (caS key h p)).toArray, .int .i64 (caN key h p)]) ∧ Below w.heap.size w w' := by
  have HG := Lib.hid hG
  have HK := fun _ : Unit => hk
  have HH := fun _ : Unit => hh
  have HP := fun _ : Unit => hp
  have hks : (bc key).toArray.size = 32 := by rw [List.size_toArray, bc_length, hk]
  have HKS := fun _ : Unit => hks
  have p0 := p.x0
  have pxm := fun _ : Unit => PK.xm hp
  have pml := fun _ : Unit => hp.mrk
  have hz32 := fun (w : World) => run_build (P := Tryd.prog) w 31 #[] (bc Z32).toArray built_z32
  obtain ⟨N, hN⟩ : ∃ N, N = caN key h p := ⟨_, rfl⟩
  obtain ⟨S, hS⟩ : ∃ S, S = caS key h p := ⟨_, rfl⟩
  have HN := fun _ : Unit => hN
  have HS := fun _ : Unit => hS
  obtain ⟨X, hX⟩ : ∃ X, X = h.X := ⟨_, rfl⟩
  obtain ⟨Y, hY⟩ : ∃ Y, Y = p.X := ⟨_, rfl⟩
  have hXs : X.size = 38 := by rw [hX]; exact PK.size hh
  have hYs : Y.size = 38 := by rw [hY]; exact PK.size hp
  have HX := fun _ : Unit => hX
  have HY := fun _ : Unit => hY
  have HXS := fun _ : Unit => hXs
  have HYS := fun _ : Unit => hYs
  rw [← hX, ← hY, ← hN, ← hS]
  rw [← hY] at p0 pxm
  clear hG hk hh hp hks hX hY hXs hYs hN hS
  go_enter Tryd.func10, Tryd.ntmps10
  go_wp2_with (first | (refine wpList_load_row rfl 31 _ rfl w.heap.size rfl _ (bc key).toArray (0, 0) _ ((((Blk.new _ _ _).alloc _).alloc _).alloc _) Tryd.underlying31 rfl (by rw [HKS ()]; kernel_rfl) ?_) | (refine wpList_load_row rfl 27 _ rfl (w.heap.size + 1) rfl _ X (0, 0) _ (((Blk.newAt _ _ (by simp)).alloc _).alloc _) Tryd.underlying27 rfl (by rw [HXS ()]; kernel_rfl) ?_))
  generalize hw1 : World.alloc (World.alloc (World.alloc (World.alloc w _) _) _) _ = w1
  have b0 : Hid (Blk w1 w.heap.size 31 (bc key).toArray) := by show Blk _ _ _ _; rw [← hw1]; exact (((Blk.new _ _ _).alloc _).alloc _).alloc _
  have b1 : Hid (Blk w1 (w.heap.size + 1) 27 X) := by show Blk _ _ _ _; rw [← hw1]; exact ((Blk.newAt _ _ (by simp)).alloc _).alloc _
  have b2 : Hid (Blk w1 (w.heap.size + 2) 27 Y) := by show Blk _ _ _ _; rw [← hw1]; exact (Blk.newAt _ _ (by simp)).alloc _
  have b3 : Hid (Blk w1 (w.heap.size + 3) 31 (bc Z32).toArray) := by show Blk _ _ _ _; rw [← hw1]; exact Blk.newAt _ _ (by simp)
  have n1 : NewMem w w1 := by rw [← hw1]; exact (((NewMem.alloc _ _).more _).more _).more _
  clear hw1
  rw [HX ()]
  refine (chello_calls key (HK ()) h (HH ()) _ (HG.out.below n1)).mono ?_
  rw [← HX ()]
  rintro e w2 ⟨rfl, hb2⟩
  have b0 := Lib.hid (b0.out.below hb2)
  have b1 := Lib.hid (b1.out.below hb2)
  have b2 := Lib.hid (b2.out.below hb2)
  have b3 := Lib.hid (b3.out.below hb2)
  have n2 : NewMem w w2 := NewMem.trans _ _ _ n1 hb2
  clear n1 hb2
  have hNd : N = if chN key h = 0 then (if chkB p then (if p.kind = 2 then (if p.mrk = ansF key h p then 0 else 12) else 2) else 2) else chN key h := HN ()
  have hSd : S = if N = 0 then secF key h p else Z32 := by rw [HS (), HN ()]; rfl
  obtain ⟨C, hC⟩ : ∃ C, C = chN key h := ⟨_, rfl⟩
  have HC := fun _ : Unit => hC
  rw [← hC] at hNd ⊢
  clear hC
  by_cases hc0 : C = 0
  rotate_left
  · rw [if_neg hc0] at hNd
    rw [hNd, if_neg hc0] at hSd
    have E1 := fun _ : Unit => hNd
    have E2 := fun _ : Unit => hSd
    clear hNd hSd
    go_wp2_with (first | (refine wpList_store_row rfl 31 _ _ rfl (w.heap.size + 3) (bc Z32).toArray rfl rfl _ _ b3.out (by kernel_rfl) rfl (bc_all _) ?_))
    refine bodyPost_ret (run_results2 rfl _ _ (w.heap.size + 3) 31 (bc Z32).toArray _ rfl (b3.out.setRow _) Tryd.underlying31 rfl (by kernel_rfl)) rfl ?_
    exact ⟨by rw [E1 (), E2 ()]; rfl, below_setRow_own n2 (by omega) _⟩
  rw [if_pos hc0] at hNd
  subst hc0
  go_wp2_with (first | (refine wpList_load_row rfl 27 _ rfl (w.heap.size + 2) rfl _ Y (0, 0) _ b2.out Tryd.underlying27 rfl (by rw [HYS ()]; kernel_rfl) ?_))
  rw [HY ()]
  refine (check_calls _ (HP ()) _).mono ?_
  rw [← HY ()]
  rintro e w3 ⟨rfl, hb3⟩
  have b0 := Lib.hid (b0.out.below hb3)
  have b1 := Lib.hid (b1.out.below hb3)
  have b2 := Lib.hid (b2.out.below hb3)
  have b3 := Lib.hid (b3.out.below hb3)
  have n3 : NewMem w w3 := NewMem.trans _ _ _ n2 hb3
  clear n2 hb3
  cases hcb : chkB p
  · rw [hcb, if_neg (by decide)] at hNd
    rw [hNd, if_neg (by decide)] at hSd
    have E1 := fun _ : Unit => hNd
    have E2 := fun _ : Unit => hSd
    clear hNd hSd hcb
    simp only [resN]
    go_wp2_with (first | (refine wpList_store_row rfl 31 _ _ rfl (w.heap.size + 3) (bc Z32).toArray rfl rfl _ _ b3.out (by kernel_rfl) rfl (bc_all _) ?_))
    refine bodyPost_ret (run_results2 rfl _ _ (w.heap.size + 3) 31 (bc Z32).toArray _ rfl (b3.out.setRow _) Tryd.underlying31 rfl (by kernel_rfl)) rfl ?_
    exact ⟨by rw [E1 (), E2 ()]; rfl, below_setRow_own n3 (by omega) _⟩
  rw [hcb, if_pos rfl] at hNd
  clear hcb
  simp only [resN]
  by_cases hk2 : p.kind = 2
  rotate_left
  · rw [if_neg hk2] at hNd
    rw [hNd, if_neg (by decide)] at hSd
    have E1 := fun _ : Unit => hNd
    have E2 := fun _ : Unit => hSd
    have hq := (b2.out.cell 0).trans p0
    clear hNd hSd
    go_wp2_with (first | (refine wpList_store_row rfl 31 _ _ rfl (w.heap.size + 3) (bc Z32).toArray rfl rfl _ _ b3.out (by kernel_rfl) rfl (bc_all _) ?_))
    refine bodyPost_ret (run_results2 rfl _ _ (w.heap.size + 3) 31 (bc Z32).toArray _ rfl (b3.out.setRow _) Tryd.underlying31 rfl (by kernel_rfl)) rfl ?_
    exact ⟨by rw [E1 (), E2 ()]; rfl, below_setRow_own n3 (by omega) _⟩
  rw [if_pos hk2] at hNd
  rw [hk2] at p0
  have hq := (b2.out.cell 0).trans p0
  clear hk2
  go_wp2_with fail
  clear hq
  obtain ⟨z, hz⟩ : ∃ z, z = ansF key h p := ⟨_, rfl⟩
  have hzl : z.length = 16 := by rw [hz]; exact ansF_length _ _ _
  have HZ := fun _ : Unit => hz
  have HZL := fun _ : Unit => hzl
  rw [← hz] at hNd
  clear hz hzl
  refine region_toG (T := newT) (J := noJ) newT_trans newT_refl () (fun vs W γ => vs 6 = .bool (!decide (p.mrk = z))) (by kernel_rfl) (by kernel_rfl) (by kernel_rfl) trivial ⟨prOfG
    [.is (.pointer (some ⟨w.heap.size + 2, 21, none⟩)), .is (.agg (bc p.mrk).toArray), .is (.agg (bc key).toArray), .is (.agg X), .is (.agg Y), .is (.agg (bc z).toArray), .is (.bool (!decide (p.mrk = z)))], prOfG_st _, no_none (by kernel_rfl), ⟨?_, ?_, ?_, ?_, ?_, ?_, ?_, trivial⟩, fun vs W γ hT hJ hp => hp 6 rfl⟩ ?_
  · refine owes_plainG rfl fun dn a W γ hT hdn hdp hJ hf hd => ?_
    have e5 := hf 5 rfl
    exact step_val (w' := W) (by simp only [execOp]; go_simp) ⟨γ, newT_refl _ _, trivial, rfl⟩
  · refine owes_plainG rfl fun dn a W γ hT hdn hdp hJ hf hd => ?_
    obtain ⟨v0, d0, rfl⟩ := hd 0 rfl
    have hb := b2.out.below (newT_nm hT)
    exact step_load_at 24 _ rfl ((eval_slot _ 27).trans d0) (rd_blk_at hb 21 _ (pxm ())) Tryd.underlying24 rfl (by rw [bc_length, pml ()]; kernel_rfl) ⟨γ, newT_refl _ _, trivial, rfl⟩
  · refine owes_plainG rfl fun dn a W γ hT hdn hdp hJ hf hd => ?_
    have e3 := hf 3 rfl
    exact step_load_row 31 _ rfl ((eval_slot _ 3).trans e3) (b0.out.below (newT_nm hT)) Tryd.underlying31 rfl (by rw [HKS ()]; kernel_rfl) ⟨γ, newT_refl _ _, trivial, rfl⟩
  · refine owes_plainG rfl fun dn a W γ hT hdn hdp hJ hf hd => ?_
    have e4 := hf 4 rfl
    exact step_load_row 27 _ rfl ((eval_slot _ 4).trans e4) (b1.out.below (newT_nm hT)) Tryd.underlying27 rfl (by rw [HXS ()]; kernel_rfl) ⟨γ, newT_refl _ _, trivial, rfl⟩
  · refine owes_plainG rfl fun dn a W γ hT hdn hdp hJ hf hd => ?_
    have e5 := hf 5 rfl
    exact step_load_row 27 _ rfl ((eval_slot _ 5).trans e5) (b2.out.below (newT_nm hT)) Tryd.underlying27 rfl (by rw [HYS ()]; kernel_rfl) ⟨γ, newT_refl _ _, trivial, rfl⟩
  · refine owes_plainG rfl fun dn a W γ hT hdn hdp hJ hf hd => ?_
    obtain ⟨v2, d2, rfl⟩ := hd 2 rfl
    obtain ⟨v3, d3, rfl⟩ := hd 3 rfl
    obtain ⟨v4, d4, rfl⟩ := hd 4 rfl
    refine step_call (w' := W) (f := 25) (args := #[.agg (bc key).toArray, .agg X, .agg Y]) (by simp only [execOp]; go_simp) ?_
    rw [HX (), HY ()]
    refine (amark_calls key (HK ()) h p (HH ()) (HP ()) W ((HG.out.below n3).below (newT_nm hT))).mono ?_
    rintro e w' ⟨rfl, hb⟩
    exact ⟨_, rfl, γ, hb, trivial, by rw [HZ ()]; rfl⟩
  · refine owes_plainG rfl fun dn a W γ hT hdn hdp hJ hf hd => ?_
    obtain ⟨v1, d1, rfl⟩ := hd 1 rfl
    obtain ⟨v5, d5, rfl⟩ := hd 5 rfl
    have hq := eq16 W p.mrk z (pml ()) (HZL ())
    exact step_val (w' := W) (by simp only [execOp]; go_simp) ⟨γ, newT_refl _ _, trivial, rfl⟩
  · intro vs W γ hT hvs
    have b0 := Lib.hid (b0.out.below (newT_nm hT))
    have b1 := Lib.hid (b1.out.below (newT_nm hT))
    have b2 := Lib.hid (b2.out.below (newT_nm hT))
    have b3 := Lib.hid (b3.out.below (newT_nm hT))
    have n4 : NewMem w W := NewMem.trans _ _ _ n3 (newT_nm hT)
    simp only [laid, Nat.reduceAdd, hvs]
    clear hvs hT n3
    by_cases hm : p.mrk = z
    rotate_left
    · rw [if_neg hm] at hNd
      rw [hNd, if_neg (by decide)] at hSd
      have E1 := fun _ : Unit => hNd
      have E2 := fun _ : Unit => hSd
      rw [decide_eq_false hm]
      clear hNd hSd hm
      simp only [Bool.not_false]
      go_wp2_with (first | (refine wpList_store_row rfl 31 _ _ rfl (w.heap.size + 3) (bc Z32).toArray rfl rfl _ _ b3.out (by kernel_rfl) rfl (bc_all _) ?_))
      refine bodyPost_ret (run_results2 rfl _ _ (w.heap.size + 3) 31 (bc Z32).toArray _ rfl (b3.out.setRow _) Tryd.underlying31 rfl (by kernel_rfl)) rfl ?_
      exact ⟨by rw [E1 (), E2 ()]; rfl, below_setRow_own n4 (by omega) _⟩
    rw [if_pos hm] at hNd
    rw [hNd, if_pos rfl] at hSd
    have hSl : S.length = 32 := by rw [hSd]; exact secF_length _ _ _
    have HSL : Unit → (bc S).toArray.size = 32 := fun _ => by rw [List.size_toArray, bc_length, hSl]
    have E1 := fun _ : Unit => hNd
    have E2 := fun _ : Unit => hSd
    rw [decide_eq_true hm]
    clear hNd hSd hm hSl
    simp only [Bool.not_true]
    go_wp2_with (first | (refine wpList_load_row rfl 31 _ rfl w.heap.size rfl _ (bc key).toArray (0, 0) _ b0.out Tryd.underlying31 rfl (by rw [HKS ()]; kernel_rfl) ?_) | (refine wpList_load_row rfl 27 _ rfl (w.heap.size + 1) rfl _ X (0, 0) _ b1.out Tryd.underlying27 rfl (by rw [HXS ()]; kernel_rfl) ?_) | (refine wpList_load_row rfl 27 _ rfl (w.heap.size + 2) rfl _ Y (0, 0) _ b2.out Tryd.underlying27 rfl (by rw [HYS ()]; kernel_rfl) ?_))
    rw [HX (), HY ()]
    refine (secret_calls key (HK ()) h p (HH ()) (HP ()) W (HG.out.below n4)).mono ?_
    rw [← HX (), ← HY (), ← E2 ()]
    rintro e w5 ⟨rfl, hb5⟩
    have b3 := Lib.hid (b3.out.below hb5)
    have n5 : NewMem w w5 := NewMem.trans _ _ _ n4 hb5
    clear hb5 n4
    go_wp2_with (first | (refine wpList_store_row rfl 31 _ _ rfl (w.heap.size + 3) (bc S).toArray rfl rfl _ _ b3.out (by rw [HSL ()]; kernel_rfl) (by rw [HSL ()]; rfl) (bc_all _) ?_))
    refine bodyPost_ret (run_results2 rfl _ _ (w.heap.size + 3) 31 (bc S).toArray _ rfl (b3.out.setRow _) Tryd.underlying31 rfl (by rw [HSL ()]; kernel_rfl)) rfl ?_
    exact ⟨by rw [E1 ()]; rfl, below_setRow_own n5 (by omega) _⟩
end Go.Proofs.YtbhaekdfpfncnaaDoor
