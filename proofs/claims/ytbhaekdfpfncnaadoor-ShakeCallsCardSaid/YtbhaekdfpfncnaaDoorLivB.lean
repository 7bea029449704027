/- lives: the probe. -/
import Derived.Test.YtbhaekdfpfncnaaDoorLivA
namespace Go.Proofs.YtbhaekdfpfncnaaDoor
set_option linter.unusedVariables false
set_option linter.unusedSimpArgs false
open Go.RowKit

theorem eq32 (w : World) (x y : List UInt8) (hx : x.length = 32) (hy : y.length = 32) : (Op.equalIn 10000 31 (.agg (bc x).toArray) (.agg (bc y).toArray)).run Tryd.prog w = .ok (decide (x = y)) w :=
  run_equalIn_bytes w 9998 31 5 32 Tryd.underlying31 Tryd.underlying5 (by kernel_rfl) x y hx hy
theorem built_k7 : Program.built Tryd.prog 31 [(0, .int .u8 7)] = some (bc k7).toArray := by kernel_rfl
theorem built_k8 : Program.built Tryd.prog 31 [(0, .int .u8 8)] = some (bc k8).toArray := by kernel_rfl
theorem built_r1 : Program.built Tryd.prog 24 [(0, .int .u8 1)] = some (bc r1).toArray := by kernel_rfl
theorem built_r2 : Program.built Tryd.prog 24 [(0, .int .u8 2)] = some (bc r2).toArray := by kernel_rfl
theorem wpList_build_if {P : Program} {ops : Array Oper} {rest : List Oper} {o : Oper} {a : Act} {Q : Exit → Act → World → Prop} {w : World} (hw : Region.wanted o (yielded ops a.tmps) = true) (t : TypeId) (parts : List (Nat × Operand)) (ho : o.op = .build t parts.toArray) (cells : Array Value)
    (hf : P.built t (parts.map fun (i, x) => (i, a.eval x)) = some cells) (h : wpList P ops Q rest (a.put o.dst (.agg cells)) w) : wpList P ops Q (o :: rest) a w := by
  have e : (parts.toArray.map fun (i, x) => (i, a.eval x)).toList = parts.map fun (i, x) => (i, a.eval x) := by simp
  rw [wpList, if_pos hw]
  left
  exact wp_build t parts.toArray ho (by rw [e, hf]; rfl) (by rw [e, hf]; exact h)
theorem blk_cells {w : World} {g : Nat} {t : TypeId} {xs : List Value} (h : Blk w g t xs.toArray) : ∀ (j : Nat) (v : Value), xs[j]? = some v → w.cell? ((⟨g, 0, none⟩ : Addr).add j) = some v := fun j v hv => by
  obtain ⟨ad, e', _, h'⟩ := rd_blk h j v hv
  cases e'
  exact h'

set_option maxHeartbeats 4000000 in
theorem lives_calls (w : World) (hG : Glb w) :
    Calls Tryd.prog 11 #[] w fun e w' => e = .returned (.bool true) ∧ Below w.heap.size w w' := by
  have HG := Lib.hid hG
  have hb7 := built_k7
  have hb8 := built_k8
  have hbr1 := built_r1
  have hbr2 := built_r2
  have hbz := built_z32
  obtain ⟨L, hL⟩ : ∃ L, L = k8 := ⟨_, rfl⟩
  obtain ⟨R1, hR1⟩ : ∃ R, R = r1 := ⟨_, rfl⟩
  obtain ⟨R2, hR2⟩ : ∃ R, R = r2 := ⟨_, rfl⟩
  rw [← hL] at hb8
  rw [← hR1] at hbr1
  rw [← hR2] at hbr2
  have HL := fun _ : Unit => hL
  have HR1 := fun _ : Unit => hR1
  have HR2 := fun _ : Unit => hR2
  obtain ⟨X, hX⟩ : ∃ X, X = livH.X := ⟨_, rfl⟩
  obtain ⟨Y, hY⟩ : ∃ Y, Y = livA.X := ⟨_, rfl⟩
  obtain ⟨K, hK⟩ : ∃ K, K = k7 := ⟨_, rfl⟩
  obtain ⟨S, hS⟩ : ∃ S, S = livS := ⟨_, rfl⟩
  have hk : K.length = 32 := by rw [hK]; rfl
  have hXs : X.size = 38 := by rw [hX]; exact PK.size livH_ok
  have hYs : Y.size = 38 := by rw [hY]; exact PK.size livA_ok
  have hX1 : X.all (·.oneCell') = true := by rw [hX]; exact PK.one _
  have hY1 : Y.all (·.oneCell') = true := by rw [hY]; exact PK.one _
  have hSl : S.length = 32 := by rw [hS]; exact livS_length
  have heq1 := fun (w : World) => eq32 w S S hSl hSl
  have heq2 := fun (w : World) => eq32 w S Z32 hSl rfl
  rw [show decide (S = S) = true from decide_eq_true rfl] at heq1
  rw [show decide (S = Z32) = false from decide_eq_false (by rw [hS]; exact liv_sec)] at heq2
  have HX := fun _ : Unit => hX
  have HY := fun _ : Unit => hY
  have HK := fun _ : Unit => hK
  have HKL : Unit → (bc K).toArray.size = 32 := fun _ => by rw [List.size_toArray, bc_length, hk]
  have HSL : Unit → (bc S).toArray.size = 32 := fun _ => by rw [List.size_toArray, bc_length, hSl]
  have HS := fun _ : Unit => hS
  have HXS := fun _ : Unit => hXs
  have HYS := fun _ : Unit => hYs
  have HX1 := fun _ : Unit => hX1
  have HY1 := fun _ : Unit => hY1
  rw [← hK] at hb7
  have HB7 := fun _ : Unit => hb7
  have HB8 := fun _ : Unit => hb8
  have HBR1 := fun _ : Unit => hbr1
  have HBR2 := fun _ : Unit => hbr2
  have HBZ := fun _ : Unit => hbz
  clear hb7 hb8 hbr1 hbr2 hbz hL hR1 hR2
  clear hG hX hY hK hS hk hXs hYs hX1 hY1 hSl
  go_enter Tryd.func11, Tryd.ntmps11
  go_wp2_with (first | (refine at_slot 9 ?_; refine wpList_build_to rfl 31 _ rfl (bc K).toArray (HB7 ()) ?_) | (refine at_slot 12 ?_; refine wpList_build_to rfl 24 _ rfl (bc R1).toArray (HBR1 ()) ?_) | (refine at_store 31 ?_; refine wpList_store_row rfl 31 _ _ rfl w.heap.size (bc K).toArray rfl rfl _ _ (Blk.new _ _ _) (by rw [HKL ()]; kernel_rfl) (by rw [HKL ()]; rfl) (bc_all _) ?_) | (refine at_slot 11 ?_; refine wpList_load_row rfl 31 _ rfl w.heap.size rfl _ (bc K).toArray (0, 0) _ ((Blk.new _ _ _).setRow _) Tryd.underlying31 rfl (by rw [HKL ()]; kernel_rfl) ?_))
  generalize hw1 : World.setRow _ _ _ = w1
  have b0 : Hid (Blk w1 w.heap.size 31 (bc K).toArray) := by show Blk _ _ _ _; rw [← hw1]; exact (Blk.new _ _ (bc Z32).toArray).setRow _
  have n1 : NewMem w w1 := by rw [← hw1]; exact below_setRow_own (NewMem.alloc _ _) (Nat.le_refl _) _
  clear hw1
  rw [HK (), HR1 ()]
  refine (hello_calls k7 rfl 3 (by omega) r1 rfl _ (HG.out.below n1)).mono ?_
  rw [liv_helP, liv_helE, ← HX (), ← HK ()]
  rintro e w2 ⟨rfl, hb2⟩
  have b0 := Lib.hid (b0.out.below hb2)
  have n2 : NewMem w w2 := NewMem.trans _ _ _ n1 hb2
  clear n1 hb2
  obtain ⟨g2, hg2⟩ : ∃ g, g = w2.heap.size := ⟨_, rfl⟩
  have hl2 : w.heap.size < g2 := by have := b0.out.lt; omega
  go_wp2_with (first | (refine at_slot 19 ?_; refine wpList_build_to rfl 24 _ rfl (bc R2).toArray (HBR2 ()) ?_) | (refine at_store 27 ?_; refine wpList_store_row rfl 27 _ _ rfl w2.heap.size X rfl rfl _ _ (Blk.new _ _ _) (by rw [HXS ()]; kernel_rfl) (by rw [HXS ()]; rfl) (HX1 ()) ?_) | (refine at_slot 17 ?_; refine wpList_load_row rfl 31 _ rfl w.heap.size rfl _ (bc K).toArray (0, 0) _ ((b0.out.alloc _).setRow_far (by omega) _) Tryd.underlying31 rfl (by rw [HKL ()]; kernel_rfl) ?_) | (refine at_slot 18 ?_; refine wpList_load_row rfl 27 _ rfl w2.heap.size rfl _ X (0, 0) _ ((Blk.new _ _ _).setRow _) Tryd.underlying27 rfl (by rw [HXS ()]; kernel_rfl) ?_))
  generalize hw3 : World.setRow _ _ _ = w3
  have n23 : NewMem w2 w3 := by rw [← hw3]; exact below_setRow_own (NewMem.alloc _ _) (Nat.le_refl _) _
  have b2 : Hid (Blk w3 g2 27 X) := by show Blk _ _ _ _; rw [← hw3, hg2]; exact (Blk.new _ _ zPK.X).setRow _
  have b0 := Lib.hid (b0.out.below n23)
  have n3 : NewMem w w3 := NewMem.trans _ _ _ n2 n23
  rw [← hg2]
  clear hw3 hg2 n23 n2
  rw [HX (), HK (), HR2 ()]
  refine (answer_calls k7 rfl livH livH_ok 9 2 (by omega) (by omega) r2 rfl _ (HG.out.below n3)).mono ?_
  rw [liv_anP, liv_anN, liv_anS, ← HX (), ← HK (), ← HY (), ← HS ()]
  rintro e w4 ⟨rfl, hb4⟩
  have b0 := Lib.hid (b0.out.below hb4)
  have b2 := Lib.hid (b2.out.below hb4)
  have n4 : NewMem w w4 := NewMem.trans _ _ _ n3 hb4
  clear n3 hb4
  obtain ⟨g4, hg4⟩ : ∃ g, g = w4.heap.size := ⟨_, rfl⟩
  have hl4 : w.heap.size < w4.heap.size := b0.out.lt
  have hl42 : g2 < w4.heap.size := b2.out.lt
  go_wp2_with (first | (refine at_store 27 ?_; refine wpList_store_row rfl 27 _ _ rfl w4.heap.size Y rfl rfl _ _ ((Blk.new _ _ _).alloc _) (by rw [HYS ()]; kernel_rfl) (by rw [HYS ()]; rfl) (HY1 ()) ?_) | (refine at_store 31 ?_; refine wpList_store_row rfl 31 _ _ rfl (w4.heap.size + 1) (bc S).toArray rfl rfl _ _ ((Blk.newAt _ _ (by simp)).setRow_far (by omega) _) (by rw [HSL ()]; kernel_rfl) (by rw [HSL ()]; rfl) (bc_all _) ?_) | (refine at_slot 25 ?_; refine wpList_load_row rfl 31 _ rfl w.heap.size rfl _ (bc K).toArray (0, 0) _ ((((b0.out.alloc _).alloc _).setRow_far (by omega) _).setRow_far (by omega) _) Tryd.underlying31 rfl (by rw [HKL ()]; kernel_rfl) ?_) | (refine at_slot 26 ?_; refine wpList_load_row rfl 27 _ rfl g2 rfl _ X (0, 0) _ ((((b2.out.alloc _).alloc _).setRow_far (by omega) _).setRow_far (by omega) _) Tryd.underlying27 rfl (by rw [HXS ()]; kernel_rfl) ?_) | (refine at_slot 27 ?_; refine wpList_load_row rfl 27 _ rfl w4.heap.size rfl _ Y (0, 0) _ ((((Blk.new _ _ _).alloc _).setRow _).setRow_far (by omega) _) Tryd.underlying27 rfl (by rw [HYS ()]; kernel_rfl) ?_))
  generalize hw5 : World.setRow (World.setRow _ _ _) _ _ = w5
  have n45 : NewMem w4 w5 := by rw [← hw5]; exact below_setRow_own (below_setRow_own ((NewMem.alloc _ _).more _) (Nat.le_refl _) _) (by omega) _
  have b5 : Hid (Blk w5 (g4 + 1) 31 (bc S).toArray) := by show Blk _ _ _ _; rw [← hw5, hg4]; exact ((Blk.newAt (w := World.alloc w4 _) _ (bc Z32).toArray (by simp)).setRow_far (by omega) _).setRow _
  have b0 := Lib.hid (b0.out.below n45)
  have b2 := Lib.hid (b2.out.below n45)
  have n5 : NewMem w w5 := NewMem.trans _ _ _ n4 n45
  rw [← hg4]
  clear hw5 n45 n4 hl4 hl42 hg4
  rw [HX (), HK (), HY ()]
  refine (canswer_calls k7 rfl livH livA livH_ok livA_ok _ (HG.out.below n5)).mono ?_
  rw [liv_caS, liv_caN, ← HX (), ← HK (), ← HY (), ← HS ()]
  rintro e w6 ⟨rfl, hb6⟩
  have b0 := Lib.hid (b0.out.below hb6)
  have b2 := Lib.hid (b2.out.below hb6)
  have b5 := Lib.hid (b5.out.below hb6)
  have n6 : NewMem w w6 := NewMem.trans _ _ _ n5 hb6
  clear n5 hb6
  have hl6 : g4 + 1 < w6.heap.size := b5.out.lt
  have hl62 : g2 < w6.heap.size := b2.out.lt
  go_wp2_with (first | (refine at_store 31 ?_; refine wpList_store_row rfl 31 _ _ rfl w6.heap.size (bc S).toArray rfl rfl _ _ (Blk.new _ _ _) (by rw [HSL ()]; kernel_rfl) (by rw [HSL ()]; rfl) (bc_all _) ?_) | (refine at_slot 42 ?_; refine wpList_load_rd_if rfl 31 _ rfl ⟨g4 + 1, 0, none⟩ rfl (bc S) _ (blk_cells ((b5.out.alloc _).setRow_far (by omega) _)) Tryd.underlying31 rfl (by rw [← List.size_toArray, HSL ()]; kernel_rfl) ?_) | (refine at_slot 43 ?_; refine wpList_load_rd_if rfl 31 _ rfl ⟨w6.heap.size, 0, none⟩ rfl (bc S) _ (blk_cells ((Blk.new _ _ _).setRow _)) Tryd.underlying31 rfl (by rw [← List.size_toArray, HSL ()]; kernel_rfl) ?_) | (refine at_slot 47 ?_; refine wpList_load_rd_if rfl 31 _ rfl ⟨g4 + 1, 0, none⟩ rfl (bc S) _ (blk_cells ((b5.out.alloc _).setRow_far (by omega) _)) Tryd.underlying31 rfl (by rw [← List.size_toArray, HSL ()]; kernel_rfl) ?_) | (refine at_slot 48 ?_; refine wpList_build_if rfl 31 _ rfl (bc Z32).toArray (HBZ ()) ?_) | (refine at_slot 52 ?_; refine wpList_build_if rfl 31 _ rfl (bc L).toArray (HB8 ()) ?_) | (refine at_slot 53 ?_; refine wpList_load_rd_if rfl 27 _ rfl ⟨g2, 0, none⟩ rfl X.toList _ (blk_cells (by rw [Array.toArray_toList]; exact (b2.out.alloc _).setRow_far (by omega) _)) Tryd.underlying27 rfl (by rw [Array.length_toList, HXS ()]; kernel_rfl) ?_; rw [Array.toArray_toList]))
  generalize hw7 : World.setRow _ _ _ = w7
  have n67 : NewMem w6 w7 := by rw [← hw7]; exact below_setRow_own (NewMem.alloc _ _) (Nat.le_refl _) _
  have n7 : NewMem w w7 := NewMem.trans _ _ _ n6 n67
  clear hw7 n67 n6
  rw [HX (), HL ()]
  refine (chello_calls k8 rfl livH livH_ok _ (HG.out.below n7)).mono ?_
  rw [liv_ch8, ← HX (), ← HL ()]
  rintro e w8 ⟨rfl, hb8⟩
  have n8 : NewMem w w8 := NewMem.trans _ _ _ n7 hb8
  clear n7 hb8
  go_wp2_with fail
  go_ret
  exact ⟨rfl, n8⟩
end Go.Proofs.YtbhaekdfpfncnaaDoor
