/- The walk of the law OctetSizes. No condition. -/
import Derived.Test.YtfkbmnlohaghbaaLives1
import Derived.Test.YtfkbmnlohaghbaaPlain2
namespace Go.Proofs.Ytfkbmnlohaghbaa
set_option linter.unusedVariables false
set_option linter.unusedSimpArgs false
open Go.RowKit

set_option maxHeartbeats 2000000 in
theorem sizes_mid (x y n : Nat) (hx : x < 18446744073709551616) (hy : y < 18446744073709551616) (hn : nlen x = n) (h0 : 0 < n) (h8 : n < 8) (w : World) : Calls Try.prog 6 #[.int .u64 (x : Int), .int .u64 (y : Int)] w fun e w' => e = .returned (.bool true) ∧ Below w.heap.size w w' := by
  have HN := Lib.hid hn
  clear hn
  go_enter Try.func6, Try.ntmps6
  go_wp2_with fail
  refine (lives1 _).mono ?_
  rintro e w1 ⟨rfl, hb1⟩
  go_wp2_with fail
  refine (number_calls none [] 0 x _ (fun _ => True) (Rd.nil _ _ _) (by simp) hx).mono ?_
  rintro e w2 ⟨A2, c2, rfl, hown2, hb2⟩
  rw [List.nil_append] at hown2 ⊢
  go_wp2_with fail
  refine (number_calls none [] 0 y _ (fun _ => True) (Rd.nil _ _ _) (by simp) hy).mono ?_
  rintro e w3 ⟨A3, c3, rfl, hown3, hb3⟩
  rw [List.nil_append] at hown3 ⊢
  have ha0 : num x = UInt8.ofNat n :: be n x := by rw [← HN.out]; rfl
  have hal : (num x).length = n + 1 := by rw [num_length, HN.out]
  have hu : (UInt8.ofNat n).toNat = n := by rw [UInt8.toNat_ofNat']; omega
  have a3 := below_then (below_then hb1 hb2 (Nat.le_refl _)) hb3 (Nat.le_refl _)
  have hrx := (Rd.of_own hown2 (by omega)).below hb3
  have hry := Rd.of_own hown3 (by omega)
  have sx : (convert 24 9 (.slice A2 (num x).length c2)).run Try.prog w3 = .ok (.string (str (num x))) w3 := conv_str c2 hrx
  have sy : (convert 24 9 (.slice A3 (num y).length c3)).run Try.prog w3 = .ok (.string (str (num y))) w3 := conv_str c3 hry
  have c0 : ∃ b off, A2 = some ⟨b, off, none⟩ ∧ w3.cell? ⟨b, off, none⟩ = some (.int .u8 (n : Int)) := by
    obtain ⟨b, off, e, _, hc⟩ := hrx.form (by rw [bc_length, hal]; omega)
    refine ⟨b, off, e, ?_⟩
    have := hc 0 (.int .u8 (n : Int)) (by rw [ha0, bc_cons, hu]; rfl)
    exact this
  obtain ⟨b, off, rfl, hc0⟩ := c0
  rw [hal] at sx ⊢
  have hql := str_toList (num x)
  have hqr := str_toList (num y)
  clear hown2 hown3 hrx hry ha0 hb1 hb2 hb3 hal hu
  have hless := num_less x y hx hy
  have hxy : (Op.bytesLess (num x) (num y) == decide (x < y)) = true := by rw [hless]; simp
  clear hless
  have e1 : (x : Int) / 2 ^ (8 * n) = 0 := by
    have h := div_pow_nlen x
    rw [HN.out, pow256] at h
    exact_mod_cast congrArg (Nat.cast (R := Int)) h
  have e2 : ((x : Int) / 2 ^ (8 * (n - 1)) == 0) = false := by
    have h := div_pow_pred x ((nlen_pos_iff x).1 (by rw [HN.out]; omega))
    rw [HN.out, pow256] at h
    rw [beq_eq_false_iff_ne]
    intro h2
    apply h
    exact_mod_cast h2
  go_wp2_with fail
  go_ret
  exact ⟨rfl, a3⟩

set_option maxHeartbeats 2000000 in
theorem sizes_top (x y n : Nat) (hx : x < 18446744073709551616) (hy : y < 18446744073709551616) (hn : nlen x = n) (h0 : 0 < n) (h8 : n = 8) (w : World) : Calls Try.prog 6 #[.int .u64 (x : Int), .int .u64 (y : Int)] w fun e w' => e = .returned (.bool true) ∧ Below w.heap.size w w' := by
  have HN := Lib.hid hn
  clear hn
  go_enter Try.func6, Try.ntmps6
  go_wp2_with fail
  refine (lives1 _).mono ?_
  rintro e w1 ⟨rfl, hb1⟩
  go_wp2_with fail
  refine (number_calls none [] 0 x _ (fun _ => True) (Rd.nil _ _ _) (by simp) hx).mono ?_
  rintro e w2 ⟨A2, c2, rfl, hown2, hb2⟩
  rw [List.nil_append] at hown2 ⊢
  go_wp2_with fail
  refine (number_calls none [] 0 y _ (fun _ => True) (Rd.nil _ _ _) (by simp) hy).mono ?_
  rintro e w3 ⟨A3, c3, rfl, hown3, hb3⟩
  rw [List.nil_append] at hown3 ⊢
  have ha0 : num x = UInt8.ofNat n :: be n x := by rw [← HN.out]; rfl
  have hal : (num x).length = n + 1 := by rw [num_length, HN.out]
  have hu : (UInt8.ofNat n).toNat = n := by rw [UInt8.toNat_ofNat']; omega
  have a3 := below_then (below_then hb1 hb2 (Nat.le_refl _)) hb3 (Nat.le_refl _)
  have hrx := (Rd.of_own hown2 (by omega)).below hb3
  have hry := Rd.of_own hown3 (by omega)
  have sx : (convert 24 9 (.slice A2 (num x).length c2)).run Try.prog w3 = .ok (.string (str (num x))) w3 := conv_str c2 hrx
  have sy : (convert 24 9 (.slice A3 (num y).length c3)).run Try.prog w3 = .ok (.string (str (num y))) w3 := conv_str c3 hry
  have c0 : ∃ b off, A2 = some ⟨b, off, none⟩ ∧ w3.cell? ⟨b, off, none⟩ = some (.int .u8 (n : Int)) := by
    obtain ⟨b, off, e, _, hc⟩ := hrx.form (by rw [bc_length, hal]; omega)
    refine ⟨b, off, e, ?_⟩
    have := hc 0 (.int .u8 (n : Int)) (by rw [ha0, bc_cons, hu]; rfl)
    exact this
  obtain ⟨b, off, rfl, hc0⟩ := c0
  rw [hal] at sx ⊢
  have hql := str_toList (num x)
  have hqr := str_toList (num y)
  clear hown2 hown3 hrx hry ha0 hb1 hb2 hb3 hal hu
  have hless := num_less x y hx hy
  have hxy : (Op.bytesLess (num x) (num y) == decide (x < y)) = true := by rw [hless]; simp
  clear hless
  have e2 : ((x : Int) / 2 ^ (8 * (n - 1)) == 0) = false := by
    have h := div_pow_pred x ((nlen_pos_iff x).1 (by rw [HN.out]; omega))
    rw [HN.out, pow256] at h
    rw [beq_eq_false_iff_ne]
    intro h2
    apply h
    exact_mod_cast h2
  subst h8
  go_wp2_with fail
  go_ret
  exact ⟨rfl, a3⟩

set_option maxHeartbeats 2000000 in
theorem sizes_zero (x y n : Nat) (hx : x < 18446744073709551616) (hy : y < 18446744073709551616) (hn : nlen x = n) (h0 : n = 0) (w : World) : Calls Try.prog 6 #[.int .u64 (x : Int), .int .u64 (y : Int)] w fun e w' => e = .returned (.bool true) ∧ Below w.heap.size w w' := by
  have HN := Lib.hid hn
  clear hn
  go_enter Try.func6, Try.ntmps6
  go_wp2_with fail
  refine (lives1 _).mono ?_
  rintro e w1 ⟨rfl, hb1⟩
  go_wp2_with fail
  refine (number_calls none [] 0 x _ (fun _ => True) (Rd.nil _ _ _) (by simp) hx).mono ?_
  rintro e w2 ⟨A2, c2, rfl, hown2, hb2⟩
  rw [List.nil_append] at hown2 ⊢
  go_wp2_with fail
  refine (number_calls none [] 0 y _ (fun _ => True) (Rd.nil _ _ _) (by simp) hy).mono ?_
  rintro e w3 ⟨A3, c3, rfl, hown3, hb3⟩
  rw [List.nil_append] at hown3 ⊢
  have ha0 : num x = UInt8.ofNat n :: be n x := by rw [← HN.out]; rfl
  have hal : (num x).length = n + 1 := by rw [num_length, HN.out]
  have hu : (UInt8.ofNat n).toNat = n := by rw [UInt8.toNat_ofNat']; omega
  have a3 := below_then (below_then hb1 hb2 (Nat.le_refl _)) hb3 (Nat.le_refl _)
  have hrx := (Rd.of_own hown2 (by omega)).below hb3
  have hry := Rd.of_own hown3 (by omega)
  have sx : (convert 24 9 (.slice A2 (num x).length c2)).run Try.prog w3 = .ok (.string (str (num x))) w3 := conv_str c2 hrx
  have sy : (convert 24 9 (.slice A3 (num y).length c3)).run Try.prog w3 = .ok (.string (str (num y))) w3 := conv_str c3 hry
  have c0 : ∃ b off, A2 = some ⟨b, off, none⟩ ∧ w3.cell? ⟨b, off, none⟩ = some (.int .u8 (n : Int)) := by
    obtain ⟨b, off, e, _, hc⟩ := hrx.form (by rw [bc_length, hal]; omega)
    refine ⟨b, off, e, ?_⟩
    have := hc 0 (.int .u8 (n : Int)) (by rw [ha0, bc_cons, hu]; rfl)
    exact this
  obtain ⟨b, off, rfl, hc0⟩ := c0
  rw [hal] at sx ⊢
  have hql := str_toList (num x)
  have hqr := str_toList (num y)
  clear hown2 hown3 hrx hry ha0 hb1 hb2 hb3 hal hu
  have hless := num_less x y hx hy
  have hxy : (Op.bytesLess (num x) (num y) == decide (x < y)) = true := by rw [hless]; simp
  clear hless
  subst h0
  have hx0 : x = 0 := by rcases Nat.eq_zero_or_pos x with h | h; exact h; have := (nlen_pos_iff x).2 h; rw [HN.out] at this; omega
  subst hx0
  go_wp2_with fail
  go_ret
  exact ⟨rfl, a3⟩

theorem octetSizes_walk (x : Nat) (hx : x < 18446744073709551616) (y : Nat) (hy : y < 18446744073709551616) (w : World) : Calls Try.prog 6 #[.int .u64 (x : Int), .int .u64 (y : Int)] w fun e w' => e = .returned (.bool true) ∧ Below w.heap.size w w' := by
  have h := nlen_le8 hx
  by_cases h0 : nlen x = 0
  · exact sizes_zero x y 0 hx hy h0 rfl w
  · by_cases h8 : nlen x = 8
    · exact sizes_top x y 8 hx hy h8 (by omega) rfl w
    · exact sizes_mid x y (nlen x) hx hy rfl (by omega) (by omega) w
end Go.Proofs.Ytfkbmnlohaghbaa
