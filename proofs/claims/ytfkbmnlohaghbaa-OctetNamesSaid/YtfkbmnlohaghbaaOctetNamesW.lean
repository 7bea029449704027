/- The walk of the law OctetNames: three readers, their errors; the chapter's examples. No condition. -/
import Derived.Test.YtfkbmnlohaghbaaLives1
namespace Go.Proofs.Ytfkbmnlohaghbaa
set_option linter.unusedVariables false
set_option linter.unusedSimpArgs false
open Go.RowKit

theorem ex_r3 : rNum [1, 0] 0 = (0, [1, 0], 4) := by decide
theorem ex_r4 : rNum [2, 1] 0 = (0, [2, 1], 5) := by decide
theorem ex_r5 : rNum [9] 0 = (0, [9], 4) := by decide

set_option maxHeartbeats 2000000 in
theorem octetNames_walk (w : World) : Calls Try.prog 3 #[] w fun e w' => e = .returned (.bool true) ∧ Below w.heap.size w w' := by
  go_enter Try.func3, Try.ntmps3
  go_wp2_with fail
  refine (new_calls _ [1, 0] 2 _ _ (rd_lit w #[.int .u8 1, .int .u8 0] 5 _) (by simp)).mono ?_
  rintro e w1 ⟨g1, rfl, hR1, hb1⟩
  go_wp2_with fail
  refine (new_calls _ [2, 1] 2 _ _ (rd_lit w1 #[.int .u8 2, .int .u8 1] 5 _) (by simp)).mono ?_
  rintro e w2 ⟨g2, rfl, hR2, hb2⟩
  go_wp2_with fail
  refine (new_calls _ [9] 1 _ _ (rd_lit w2 #[.int .u8 9] 5 _) (by simp)).mono ?_
  rintro e w3 ⟨g3, rfl, hR3, hb3⟩
  go_wp2_with fail
  refine (lives1 _).mono ?_
  rintro e w4 ⟨rfl, hb4⟩
  go_wp2_with fail
  refine (number_calls none [] 0 0 _ (fun _ => True) (Rd.nil _ _ _) (by simp) (by simp)).mono ?_
  rintro e w5 ⟨A5, c5, rfl, hown5, hb5⟩
  rw [ex_num0] at hown5 ⊢
  have hs5 : (convert 24 9 (.slice A5 1 c5)).run Try.prog w5 = .ok (.string (str [0])) w5 := conv_str c5 (Rd.of_own hown5 (by omega))
  have hq5 : (str [0]).toList = [0] := str_toList _
  obtain ⟨F1, hF1⟩ : ∃ F, F = (fun k => (w.alloc (.cells #[.int .u8 1, .int .u8 0] 5)).heap.size ≤ k ∧ k < w1.heap.size) := ⟨_, rfl⟩
  obtain ⟨F2, hF2⟩ : ∃ F, F = (fun k => (w1.alloc (.cells #[.int .u8 2, .int .u8 1] 5)).heap.size ≤ k ∧ k < w2.heap.size) := ⟨_, rfl⟩
  obtain ⟨F3, hF3⟩ : ∃ F, F = (fun k => (w2.alloc (.cells #[.int .u8 9] 5)).heap.size ≤ k ∧ k < w3.heap.size) := ⟨_, rfl⟩
  rw [← hF1] at hR1
  rw [← hF2] at hR2
  rw [← hF3] at hR3
  have s1 := hb1.size
  have s2 := hb2.size
  have s3 := hb3.size
  have d12 : ∀ k, F2 k → ¬ F1 k := by subst hF1; subst hF2; intro k h h'; simp at h h' s2; omega
  have d13 : ∀ k, F3 k → ¬ F1 k := by subst hF1; subst hF3; intro k h h'; simp at h h' s2 s3; omega
  have d23 : ∀ k, F3 k → ¬ F2 k := by subst hF2; subst hF3; intro k h h'; simp at h h' s3; omega
  have n1 : ∀ k, k < w.heap.size → ¬ F1 k := by subst hF1; intro k h h'; simp at h'; omega
  have n2 : ∀ k, k < w.heap.size → ¬ F2 k := by subst hF2; intro k h h'; simp at h' s1 s2; omega
  have n3 : ∀ k, k < w.heap.size → ¬ F3 k := by subst hF3; intro k h h'; simp at h' s1 s2 s3; omega
  have a5 := below_then (below_then (below_then (below_all (below_then (below_all (below_then (below_all (Below.refl w.heap.size w) (Nat.le_refl _) (.cells #[.int .u8 1, .int .u8 0] 5)) hb1 (Nat.le_refl _)) (Nat.le_refl _) (.cells #[.int .u8 2, .int .u8 1] 5)) hb2 (Nat.le_refl _)) (Nat.le_refl _) (.cells #[.int .u8 9] 5)) hb3 (Nat.le_refl _)) hb4 (Nat.le_refl _)) hb5 (Nat.le_refl _)
  have r1 := ((((hR1.keep (S := fun _ => False) ((Fr.refl _ _).alloc (.cells #[.int .u8 2, .int .u8 1] 5)) fun _ _ _ h => h).below hb2).keep (S := fun _ => False) ((Fr.refl _ _).alloc (.cells #[.int .u8 9] 5)) fun _ _ _ h => h).below hb3).below hb4 |>.below hb5
  have r2 := (((hR2.keep (S := fun _ => False) ((Fr.refl _ _).alloc (.cells #[.int .u8 9] 5)) fun _ _ _ h => h).below hb3).below hb4).below hb5
  have r3 := (hR3.below hb4).below hb5
  clear hF1 hF2 hF3 s1 s2 s3 hR1 hR2 hR3 hb1 hb2 hb3 hb4 hb5 hown5
  have R1 := Lib.hid r1
  have R2 := Lib.hid r2
  have R3 := Lib.hid r3
  clear r1 r2 r3
  have D12 := Lib.hid d12
  have D13 := Lib.hid d13
  have D23 := Lib.hid d23
  have N1 := Lib.hid n1
  have N2 := Lib.hid n2
  have N3 := Lib.hid n3
  clear d12 d13 d23 n1 n2 n3
  go_wp2_with fail
  have H := rnum_calls g1 _ _ _ _ R1.out
  rw [ex_r3] at H
  refine H.mono ?_
  clear H
  rintro e w6 ⟨rfl, q1, f1⟩
  have a6 := below_fr a5 f1 (Nat.le_refl _) N1.out
  have q2 := R2.out.keep f1 fun k _ => D12.out k
  have q3 := R3.out.keep f1 fun k _ => D13.out k
  clear R1 R2 R3 a5 f1 D12 D13
  have Q1 := Lib.hid q1
  have Q2 := Lib.hid q2
  have Q3 := Lib.hid q3
  clear q1 q2 q3
  go_wp2_with fail
  refine (err_calls g1 _ _ _ _ Q1.out).mono ?_
  rintro e w7 ⟨rfl, rfl⟩
  go_wp2_with fail
  have H := rnum_calls g2 _ _ _ _ Q2.out
  rw [ex_r4] at H
  refine H.mono ?_
  clear H
  rintro e w8 ⟨rfl, q2, f2⟩
  have a8 := below_fr a6 f2 (Nat.le_refl _) N2.out
  have q3 := Q3.out.keep f2 fun k _ => D23.out k
  have Q2 := Lib.hid q2
  have Q3 := Lib.hid q3
  clear q2 q3 f2 a6
  go_wp2_with fail
  refine (err_calls g2 _ _ _ _ Q2.out).mono ?_
  rintro e w9 ⟨rfl, rfl⟩
  go_wp2_with fail
  have H := rnum_calls g3 _ _ _ _ Q3.out
  rw [ex_r5] at H
  refine H.mono ?_
  clear H
  rintro e w10 ⟨rfl, q3, f3⟩
  have a10 := below_fr a8 f3 (Nat.le_refl _) N3.out
  have Q3 := Lib.hid q3
  clear q3 f3 a8
  go_wp2_with fail
  refine (err_calls g3 _ _ _ _ Q3.out).mono ?_
  rintro e w11 ⟨rfl, rfl⟩
  go_wp2_with fail
  go_ret
  exact ⟨rfl, a10⟩
end Go.Proofs.Ytfkbmnlohaghbaa
