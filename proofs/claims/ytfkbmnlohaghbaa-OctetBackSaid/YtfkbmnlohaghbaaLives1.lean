/- The chapter's examples hold: lives() is true. -/
import Derived.Test.YtfkbmnlohaghbaaRdrFix
import Derived.Test.YtfkbmnlohaghbaaSum
namespace Go.Proofs.Ytfkbmnlohaghbaa
set_option linter.unusedVariables false
set_option linter.unusedSimpArgs false
open Go.RowKit

theorem ex_block : ([] : List UInt8) ++ num [(97 : UInt8), 98].length ++ [97, 98] = [1, 2, 97, 98] := by simp [num, nlen, be]
theorem ex_num5 : ([] : List UInt8) ++ num 5 = [1, 5] := by simp [num, nlen, be]
theorem ex_num0 : ([] : List UInt8) ++ num 0 = [0] := by simp [num, nlen, be]
theorem ex_crc : crc [49, 50, 51, 52, 53, 54, 55, 56, 57] = 3421780262 := by decide +kernel
theorem ex_r1 : rNum [2, 1, 44, 0] 0 = (300, [0], 0) := by decide
theorem ex_r2 : rNum [0] 0 = (0, [], 0) := by decide

set_option maxHeartbeats 2000000 in
theorem lives1 (w : World) : Calls Try.prog 12 #[] w fun e w' => e = .returned (.bool true) ∧ Below w.heap.size w w' := by
  go_enter Try.func12, Try.ntmps12
  go_wp2_with fail
  refine (block_calls none _ [] [97, 98] 0 2 _ (fun _ => True) _ (Rd.nil _ _ _) (rd_lit w #[.int .u8 97, .int .u8 98] 5 _) (by simp) (by simp)).mono ?_
  rintro e w1 ⟨A1, c1, rfl, hown1, hb1⟩
  rw [ex_block] at hown1 ⊢
  have hr1 := Rd.of_own hown1 (by omega)
  go_wp2_with fail
  refine (new_calls _ [2, 1, 44, 0] 4 _ _ (rd_lit w1 #[.int .u8 2, .int .u8 1, .int .u8 44, .int .u8 0] 5 _) (by simp)).mono ?_
  rintro e w2 ⟨g, rfl, hR2, hb2⟩
  have hr2 := (hr1.alloc _).below hb2
  have hs : (convert 24 9 (.slice A1 4 c1)).run Try.prog w2 = .ok (.string (str [1, 2, 97, 98])) w2 := conv_str c1 hr2
  have hq : (str [1, 2, 97, 98]).toList = [1, 2, 97, 98] := str_toList _
  go_wp2_with fail
  refine (sum_calls _ [[49, 50, 51, 52, 53, 54, 55, 56, 57]] 1 _ _ (rdl_one 24 (rd_lit w2 #[.int .u8 49, .int .u8 50, .int .u8 51, .int .u8 52, .int .u8 53, .int .u8 54, .int .u8 55, .int .u8 56, .int .u8 57] 5 _) (by simp) (by simp)) (by simp) (by simp)).mono ?_
  rintro e w4 ⟨rfl, hb4⟩
  rw [show crc [[49, 50, 51, 52, 53, 54, 55, 56, 57]].flatten = 3421780262 from ex_crc]
  have hF4 : Fr (fun _ => False) w2 w4 := ((((Fr.refl _ _).alloc _).alloc _).trans (Fr.new hb4))
  have hR4 := hR2.keep hF4 fun _ _ _ h => h
  go_wp2_with fail
  have H1 := rnum_calls g _ _ _ _ hR4
  rw [ex_r1] at H1
  refine H1.mono ?_
  rintro e w5 ⟨rfl, hR5, hF5⟩
  go_wp2_with fail
  have H2 := rnum_calls g _ _ _ _ hR5
  rw [ex_r2] at H2
  refine H2.mono ?_
  rintro e w6 ⟨rfl, hR6, hF6⟩
  go_wp2_with fail
  refine (end_calls g [] 0 _ _ hR6).mono ?_
  rintro e w7 ⟨rfl, hR7, hF7⟩
  simp only [rEnd]
  go_wp2_with fail
  refine (number_calls none [] 0 5 _ (fun _ => True) (Rd.nil _ _ _) (by simp) (by simp)).mono ?_
  rintro e w8 ⟨A8, c8, rfl, hown8, hb8⟩
  rw [ex_num5] at hown8 ⊢
  have hs8 : (convert 24 9 (.slice A8 2 c8)).run Try.prog w8 = .ok (.string (str [1, 5])) w8 := conv_str c8 (Rd.of_own hown8 (by omega))
  have hq8 : (str [1, 5]).toList = [1, 5] := str_toList _
  go_wp2_with fail
  go_ret
  refine ⟨rfl, ?_⟩
  have a1 := below_then (below_all (Below.refl w.heap.size w) (Nat.le_refl _) _) hb1 (Nat.le_refl _)
  have a2 := below_then (below_all a1 (Nat.le_refl _) _) hb2 (Nat.le_refl _)
  have a4 := below_fr a2 hF4 (Nat.le_refl _) fun _ _ h => h
  have hlt : ∀ k, k < w.heap.size → ¬ ((w1.alloc (.cells #[.int .u8 2, .int .u8 1, .int .u8 44, .int .u8 0] 5)).heap.size ≤ k ∧ k < w2.heap.size) := fun k hk h => by
    have := a1.size
    simp at h
    omega
  have a5 := below_fr a4 hF5 (Nat.le_refl _) hlt
  have a6 := below_fr a5 hF6 (Nat.le_refl _) hlt
  have a7 := below_fr a6 hF7 (Nat.le_refl _) hlt
  exact below_then a7 hb8 (Nat.le_refl _)
end Go.Proofs.Ytfkbmnlohaghbaa
