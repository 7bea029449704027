/- The law ShakeNames, walked. -/
import Derived.Test.YtbhaekdfpfncnaaDoorLivB
namespace Go.Proofs.YtbhaekdfpfncnaaDoor
set_option linter.unusedVariables false
set_option linter.unusedSimpArgs false
open Go.RowKit

def nmH : PK := hPK 1 Z16 (helF Z32 1 Z16)
theorem z32_len : Z32.length = 32 := rfl
theorem nmH_ok : nmH.ok := hPK_ok (by omega) rfl (helF_length _ _ _)
theorem nm_p0 : helP Z32 0 Z16 = zPK := by unfold helP; rw [chk_h]; rfl
theorem nm_e0 : helE 0 Z16 = 2 := by unfold helE; rw [chk_h]; rfl
theorem nm_p1 : helP Z32 1 Z16 = nmH := by unfold helP; rw [chk_h]; rfl
theorem nm_e1 : helE 1 Z16 = 0 := by unfold helE; rw [chk_h]; rfl
theorem nm_ch : chN Z32 nmH = 0 := by unfold nmH; rw [chN_hel]; rfl
theorem nm_anN : anN Z32 nmH 0 1 Z16 = 2 := by unfold anN; rw [nm_ch, if_pos rfl, chk_a]; rfl
theorem nm_anP : anP Z32 nmH 0 1 Z16 = zPK := by unfold anP; rw [nm_anN]; rfl
theorem nm_anS : anS Z32 nmH 0 1 Z16 = Z32 := by unfold anS; rw [nm_anN]; rfl
theorem nm_caN : caN Z32 nmH nmH = 2 := by
  unfold caN
  rw [nm_ch, if_pos rfl, show chkB nmH = true from by unfold nmH; rw [chk_h]; rfl, if_pos rfl, if_neg (show ¬ nmH.kind = 2 from by decide)]
theorem nm_caS : caS Z32 nmH nmH = Z32 := by unfold caS; rw [nm_caN]; rfl
theorem built_z16 : Program.built Tryd.prog 24 [] = some (bc Z16).toArray := by kernel_rfl

set_option maxHeartbeats 4000000 in
theorem names_calls (w : World) (hG : Glb w) :
    Calls Tryd.prog 3 #[] w fun e w' => e = .returned (.bool true) ∧ Below w.heap.size w w' := by
  have HG := Lib.hid hG
  obtain ⟨X, hX⟩ : ∃ X, X = nmH.X := ⟨_, rfl⟩
  obtain ⟨V, hV⟩ : ∃ V, V = zPK.X := ⟨_, rfl⟩
  obtain ⟨K, hK⟩ : ∃ K, K = Z32 := ⟨_, rfl⟩
  obtain ⟨R, hR⟩ : ∃ R, R = Z16 := ⟨_, rfl⟩
  have hk : K.length = 32 := by rw [hK]; rfl
  have hXs : X.size = 38 := by rw [hX]; exact PK.size nmH_ok
  have hVs : V.size = 38 := by rw [hV]; exact PK.size zPK_ok
  have hX1 : X.all (·.oneCell') = true := by rw [hX]; exact PK.one _
  have hV1 : V.all (·.oneCell') = true := by rw [hV]; exact PK.one _
  have hbk := built_z32
  have hbr := built_z16
  have hbv := built_z
  rw [← hK] at hbk
  rw [← hR] at hbr
  rw [← hV] at hbv
  have HX := fun _ : Unit => hX
  have HV := fun _ : Unit => hV
  have HK := fun _ : Unit => hK
  have HR := fun _ : Unit => hR
  have HKL : Unit → (bc K).toArray.size = 32 := fun _ => by rw [List.size_toArray, bc_length, hk]
  have HXS := fun _ : Unit => hXs
  have HVS := fun _ : Unit => hVs
  have HX1 := fun _ : Unit => hX1
  have HV1 := fun _ : Unit => hV1
  have HBK := fun _ : Unit => hbk
  have HBR := fun _ : Unit => hbr
  have HBV := fun _ : Unit => hbv
  clear hG hX hV hK hR hk hXs hVs hX1 hV1 hbk hbr hbv
  go_enter Tryd.func3, Tryd.ntmps3
  go_wp2_with (first | (refine at_slot 11 ?_; refine wpList_build_to rfl 31 _ rfl (bc K).toArray (HBK ()) ?_) | (refine at_slot 12 ?_; refine wpList_build_to rfl 24 _ rfl (bc R).toArray (HBR ()) ?_))
  rw [HK (), HR ()]
  refine (hello_calls Z32 rfl 0 (by omega) Z16 rfl _ HG.out).mono ?_
  rw [nm_p0, nm_e0, ← HV (), ← HK (), ← HR ()]
  rintro e w1 ⟨rfl, n1⟩
  have n1 : NewMem w w1 := n1
  go_wp2_with (first | (refine at_store 27 ?_; refine wpList_store_row rfl 27 _ _ rfl w1.heap.size V rfl rfl _ _ (Blk.new _ _ _) (by rw [HVS ()]; kernel_rfl) (by rw [HVS ()]; rfl) (HV1 ()) ?_) | (refine at_slot 17 ?_; refine wpList_build_to rfl 31 _ rfl (bc K).toArray (HBK ()) ?_) | (refine at_slot 18 ?_; refine wpList_build_to rfl 24 _ rfl (bc R).toArray (HBR ()) ?_))
  generalize hw2 : World.setRow _ _ _ = w2
  have n2 : NewMem w w2 := NewMem.trans _ _ _ n1 (by rw [← hw2]; exact below_setRow_own (NewMem.alloc _ _) (Nat.le_refl _) _)
  clear hw2 n1
  rw [HK (), HR ()]
  refine (hello_calls Z32 rfl 1 (by omega) Z16 rfl _ (HG.out.below n2)).mono ?_
  rw [nm_p1, nm_e1, ← HX (), ← HK (), ← HR ()]
  rintro e w3 ⟨rfl, hb3⟩
  have n3 : NewMem w w3 := NewMem.trans _ _ _ n2 hb3
  clear n2 hb3
  obtain ⟨g3, hg3⟩ : ∃ g, g = w3.heap.size := ⟨_, rfl⟩
  go_wp2_with (first | (refine at_store 27 ?_; refine wpList_store_row rfl 27 _ _ rfl w3.heap.size X rfl rfl _ _ (Blk.new _ _ _) (by rw [HXS ()]; kernel_rfl) (by rw [HXS ()]; rfl) (HX1 ()) ?_) | (refine at_slot 23 ?_; refine wpList_build_to rfl 31 _ rfl (bc K).toArray (HBK ()) ?_) | (refine at_slot 25 ?_; refine wpList_build_to rfl 24 _ rfl (bc R).toArray (HBR ()) ?_) | (refine at_slot 24 ?_; refine wpList_load_row rfl 27 _ rfl w3.heap.size rfl _ X (0, 0) _ ((Blk.new _ _ _).setRow _) Tryd.underlying27 rfl (by rw [HXS ()]; kernel_rfl) ?_))
  generalize hw4 : World.setRow _ _ _ = w4
  have n34 : NewMem w3 w4 := by rw [← hw4]; exact below_setRow_own (NewMem.alloc _ _) (Nat.le_refl _) _
  have b3 : Hid (Blk w4 g3 27 X) := by show Blk _ _ _ _; rw [← hw4, hg3]; exact (Blk.new _ _ zPK.X).setRow _
  have n4 : NewMem w w4 := NewMem.trans _ _ _ n3 n34
  rw [← hg3]
  clear hw4 n34 n3 hg3
  rw [HK (), HR (), HX ()]
  refine (answer_calls Z32 rfl nmH nmH_ok 0 1 (by omega) (by omega) Z16 rfl _ (HG.out.below n4)).mono ?_
  rw [nm_anP, nm_anN, nm_anS, ← HX (), ← HK (), ← HR (), ← HV ()]
  rintro e w5 ⟨rfl, hb5⟩
  have b3 := Lib.hid (b3.out.below hb5)
  have n5 : NewMem w w5 := NewMem.trans _ _ _ n4 hb5
  clear n4 hb5
  have hl5 : g3 < w5.heap.size := b3.out.lt
  go_wp2_with (first | (refine at_store 27 ?_; refine wpList_store_row rfl 27 _ _ rfl w5.heap.size V rfl rfl _ _ ((Blk.new _ _ _).alloc _) (by rw [HVS ()]; kernel_rfl) (by rw [HVS ()]; rfl) (HV1 ()) ?_) | (refine at_store 31 ?_; refine wpList_store_row rfl 31 _ _ rfl (w5.heap.size + 1) (bc K).toArray rfl rfl _ _ ((Blk.newAt _ _ (by simp)).setRow_far (by omega) _) (by rw [HKL ()]; kernel_rfl) (by rw [HKL ()]; rfl) (bc_all _) ?_) | (refine at_slot 31 ?_; refine wpList_build_to rfl 31 _ rfl (bc K).toArray (HBK ()) ?_) | (refine at_slot 32 ?_; refine wpList_load_row rfl 27 _ rfl g3 rfl _ X (0, 0) _ ((((b3.out.alloc _).alloc _).setRow_far (by omega) _).setRow_far (by omega) _) Tryd.underlying27 rfl (by rw [HXS ()]; kernel_rfl) ?_) | (refine at_slot 33 ?_; refine wpList_load_row rfl 27 _ rfl g3 rfl _ X (0, 0) _ ((((b3.out.alloc _).alloc _).setRow_far (by omega) _).setRow_far (by omega) _) Tryd.underlying27 rfl (by rw [HXS ()]; kernel_rfl) ?_))
  generalize hw6 : World.setRow (World.setRow _ _ _) _ _ = w6
  have n56 : NewMem w5 w6 := by rw [← hw6]; exact below_setRow_own (below_setRow_own ((NewMem.alloc _ _).more _) (Nat.le_refl _) _) (by omega) _
  have n6 : NewMem w w6 := NewMem.trans _ _ _ n5 n56
  clear hw6 n56 n5 hl5 b3
  rw [HK (), HX ()]
  refine (canswer_calls Z32 rfl nmH nmH nmH_ok nmH_ok _ (HG.out.below n6)).mono ?_
  rw [nm_caS, nm_caN, ← HX (), ← HK ()]
  rintro e w7 ⟨rfl, hb7⟩
  have n7 : NewMem w w7 := NewMem.trans _ _ _ n6 hb7
  clear n6 hb7
  go_wp2_with (first | (refine at_store 31 ?_; refine wpList_store_row rfl 31 _ _ rfl w7.heap.size (bc K).toArray rfl rfl _ _ (Blk.new _ _ _) (by rw [HKL ()]; kernel_rfl) (by rw [HKL ()]; rfl) (bc_all _) ?_))
  generalize hw8 : World.setRow _ _ _ = w8
  have n8 : NewMem w w8 := NewMem.trans _ _ _ n7 (by rw [← hw8]; exact below_setRow_own (NewMem.alloc _ _) (Nat.le_refl _) _)
  clear hw8 n7
  refine (lives_calls _ (HG.out.below n8)).mono ?_
  rintro e w9 ⟨rfl, hb9⟩
  have n9 : NewMem w w9 := NewMem.trans _ _ _ n8 hb9
  clear n8 hb9
  go_wp2_with (first | (refine at_slot 51 ?_; refine wpList_build_if rfl 31 _ rfl (bc K).toArray (HBK ()) ?_) | (refine at_slot 52 ?_; refine wpList_build_if rfl 27 _ rfl V (HBV ()) ?_))
  rw [HK (), HV ()]
  refine (chello_calls Z32 rfl zPK zPK_ok _ (HG.out.below n9)).mono ?_
  rw [chN_z]
  rintro e w10 ⟨rfl, hb10⟩
  have n10 : NewMem w w10 := NewMem.trans _ _ _ n9 hb10
  clear n9 hb10
  go_wp2_with fail
  go_ret
  exact ⟨rfl, n10⟩
end Go.Proofs.YtbhaekdfpfncnaaDoor
