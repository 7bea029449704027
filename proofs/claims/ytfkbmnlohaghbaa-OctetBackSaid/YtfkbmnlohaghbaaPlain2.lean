/- Plain mathematics of chapter 1: numbers in the order of bytes; what is written is read back, and nothing else is. No program, no memory. -/
import Derived.Test.YtfkbmnlohaghbaaPlain
namespace Go.Proofs.Ytfkbmnlohaghbaa
set_option linter.unusedVariables false
set_option linter.unusedSimpArgs false

theorem lt_pow_nlen (x : Nat) : x < 256 ^ nlen x := by
  induction x using Nat.strongRecOn with
  | _ x ih =>
    rcases Nat.eq_zero_or_pos x with h0 | h0
    · subst h0; simp [nlen_zero]
    · rw [nlen_pos h0, Nat.add_comm, Nat.pow_succ]
      have := ih (x / 256) (by omega)
      omega
theorem pow_nlen_le {x : Nat} (h : 0 < x) : 256 ^ (nlen x - 1) ≤ x := by
  induction x using Nat.strongRecOn with
  | _ x ih =>
    rw [nlen_pos h]
    rcases Nat.eq_zero_or_pos (x / 256) with h0 | h0
    · rw [h0, nlen_zero]; simp; omega
    · have := ih (x / 256) (by omega) h0
      have e : 1 + nlen (x / 256) - 1 = (nlen (x / 256) - 1) + 1 := by
        have := nlen_pos h0
        omega
      rw [e, Nat.pow_succ]
      omega
theorem nlen_pos_iff (x : Nat) : 0 < nlen x ↔ 0 < x := by
  rcases Nat.eq_zero_or_pos x with h | h
  · subst h; simp [nlen_zero]
  · rw [nlen_pos h]; omega
theorem div_pow_nlen (x : Nat) : x / 256 ^ nlen x = 0 := Nat.div_eq_of_lt (lt_pow_nlen x)
theorem div_pow_pred (x : Nat) (h : 0 < x) : x / 256 ^ (nlen x - 1) ≠ 0 := by
  have := pow_nlen_le h
  have hp : 0 < 256 ^ (nlen x - 1) := Nat.pow_pos (by omega)
  have := (Nat.div_pos this hp)
  omega
theorem nlen_mono {x y : Nat} (h : nlen x < nlen y) : x < y := by
  have h1 := lt_pow_nlen x
  have hy : 0 < y := (nlen_pos_iff y).1 (by omega)
  have h2 := pow_nlen_le hy
  have h3 : 256 ^ nlen x ≤ 256 ^ (nlen y - 1) := Nat.pow_le_pow_right (by omega) (by omega)
  omega
theorem be_less : ∀ (n x y : Nat), x < 256 ^ n → y < 256 ^ n → Op.bytesLess (be n x) (be n y) = decide (x < y)
  | 0, x, y, hx, hy => by
    have h1 : x = 0 := by simpa using hx
    have h2 : y = 0 := by simpa using hy
    subst h1; subst h2; rfl
  | n + 1, x, y, hx, hy => by
    have ih := be_less n (x % 256 ^ n) (y % 256 ^ n) (Nat.mod_lt _ (Nat.pow_pos (by omega))) (Nat.mod_lt _ (Nat.pow_pos (by omega)))
    have hb : ∀ z, be n (z % 256 ^ n) = be n z := by
      intro z
      have : ∀ m k, m ≤ k → be m (z % 256 ^ k) = be m z := by
        intro m
        induction m with
        | zero => intro k _; rfl
        | succ m ihm =>
          intro k hk
          simp only [be]
          rw [ihm k (by omega)]
          congr 1
          apply UInt8.toNat_inj.1
          rw [UInt8.toNat_ofNat', UInt8.toNat_ofNat']
          have e : 256 ^ k = 256 ^ m * 256 * 256 ^ (k - (m + 1)) := by
            rw [← Nat.pow_succ, ← Nat.pow_add]; congr 1; omega
          rw [e, Nat.mul_assoc, Nat.mod_mul_right_div_self, Nat.mod_mul_right_mod]
      exact this n n (Nat.le_refl _)
    rw [hb, hb] at ih
    have hp : 0 < 256 ^ n := Nat.pow_pos (by omega)
    rw [Nat.pow_succ] at hx hy
    have hxd : x / 256 ^ n < 256 := Nat.div_lt_of_lt_mul hx
    have hyd : y / 256 ^ n < 256 := Nat.div_lt_of_lt_mul hy
    have hxm := Nat.div_add_mod x (256 ^ n)
    have hym := Nat.div_add_mod y (256 ^ n)
    have hxl := Nat.mod_lt x hp
    have hyl := Nat.mod_lt y hp
    simp only [be, Op.bytesLess]
    rw [ih]
    have h1 : (UInt8.ofNat (x / 256 ^ n) < UInt8.ofNat (y / 256 ^ n)) ↔ x / 256 ^ n < y / 256 ^ n := by
      rw [UInt8.lt_iff_toNat_lt, UInt8.toNat_ofNat', UInt8.toNat_ofNat', show (2 : Nat) ^ 8 = 256 from rfl, Nat.mod_eq_of_lt hxd, Nat.mod_eq_of_lt hyd]
    have h2 : (UInt8.ofNat (x / 256 ^ n) = UInt8.ofNat (y / 256 ^ n)) ↔ x / 256 ^ n = y / 256 ^ n := by
      rw [← UInt8.toNat_inj, UInt8.toNat_ofNat', UInt8.toNat_ofNat', show (2 : Nat) ^ 8 = 256 from rfl, Nat.mod_eq_of_lt hxd, Nat.mod_eq_of_lt hyd]
    rw [Bool.eq_iff_iff]
    simp only [Bool.or_eq_true, Bool.and_eq_true, decide_eq_true_eq, beq_iff_eq, h1, h2]
    generalize x / 256 ^ n = a at *
    generalize y / 256 ^ n = b at *
    generalize x % 256 ^ n = c at *
    generalize y % 256 ^ n = d at *
    generalize 256 ^ n = q at *
    rw [← hxm, ← hym]
    constructor
    · rintro (h | ⟨rfl, h⟩)
      · have : q * (a + 1) ≤ q * b := Nat.mul_le_mul_left _ h
        rw [Nat.mul_add] at this
        omega
      · omega
    · intro h
      rcases Nat.lt_trichotomy a b with h3 | h3 | h3
      · exact Or.inl h3
      · subst h3; exact Or.inr ⟨rfl, by omega⟩
      · have : q * (b + 1) ≤ q * a := Nat.mul_le_mul_left _ h3
        rw [Nat.mul_add] at this
        omega
theorem num_less (x y : Nat) (hx : x < 18446744073709551616) (hy : y < 18446744073709551616) : Op.bytesLess (num x) (num y) = decide (x < y) := by
  have h1 := nlen_le8 hx
  have h2 := nlen_le8 hy
  unfold num
  simp only [Op.bytesLess]
  have e1 : (UInt8.ofNat (nlen x) < UInt8.ofNat (nlen y)) ↔ nlen x < nlen y := by
    rw [UInt8.lt_iff_toNat_lt, UInt8.toNat_ofNat', UInt8.toNat_ofNat']
    omega
  have e2 : (UInt8.ofNat (nlen x) = UInt8.ofNat (nlen y)) ↔ nlen x = nlen y := by
    rw [← UInt8.toNat_inj, UInt8.toNat_ofNat', UInt8.toNat_ofNat']
    omega
  rw [Bool.eq_iff_iff]
  simp only [Bool.or_eq_true, Bool.and_eq_true, decide_eq_true_eq, beq_iff_eq, e1, e2]
  constructor
  · rintro (h | ⟨h, h3⟩)
    · exact nlen_mono h
    · rw [h, be_less _ _ _ (h ▸ lt_pow_nlen x) (lt_pow_nlen y)] at h3
      simpa using h3
  · intro h
    rcases Nat.lt_trichotomy (nlen x) (nlen y) with h3 | h3 | h3
    · exact Or.inl h3
    · refine Or.inr ⟨h3, ?_⟩
      rw [h3, be_less _ _ _ (h3 ▸ lt_pow_nlen x) (lt_pow_nlen y)]
      simpa using h
    · have := nlen_mono h3
      omega
end Go.Proofs.Ytfkbmnlohaghbaa
