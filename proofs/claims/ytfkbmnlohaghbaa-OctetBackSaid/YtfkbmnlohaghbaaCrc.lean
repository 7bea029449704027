/- Plain mathematics of the checksum: the bit step, the table, the fold over bytes, and why a change within 32 bits is seen. No program, no memory. -/
import Derived.WalkKit
namespace Go.Proofs.Ytfkbmnlohaghbaa
set_option linter.unusedVariables false
set_option linter.unusedSimpArgs false

/-- One bit: shifted right; where the bit shifted out is 1 the polynomial is xored in. -/
def stp (x : Nat) : Nat := if x % 2 = 1 then (x / 2) ^^^ 3988292384 else x / 2
/-- n bits. -/
def stps : Nat → Nat → Nat
  | 0, x => x
  | n + 1, x => stps n (stp x)
/-- A byte. -/
def stpB (x : Nat) (c : UInt8) : Nat := stps 8 (x ^^^ c.toNat)
def crcF (x : Nat) (l : List UInt8) : Nat := l.foldl stpB x
/-- The checksum. -/
def crc (l : List UInt8) : Nat := 4294967295 - crcF 4294967295 l
def tabN (i : Nat) : Nat := stps 4 i

theorem stps_succ (n x : Nat) : stps (n + 1) x = stp (stps n x) := by
  induction n generalizing x with
  | zero => rfl
  | succ n ih => rw [stps, ih]; rfl
theorem stps_add (m n x : Nat) : stps (m + n) x = stps n (stps m x) := by
  induction m generalizing x with
  | zero => simp [stps]
  | succ m ih => rw [Nat.succ_add, stps, ih]; rfl
theorem xor_div2 (a b : Nat) : (a ^^^ b) / 2 = (a / 2) ^^^ (b / 2) := by
  have := Nat.shiftRight_xor_distrib (a := a) (b := b) (i := 1)
  simpa [Nat.shiftRight_eq_div_pow] using this
theorem stp_xor (a b : Nat) : stp (a ^^^ b) = stp a ^^^ stp b := by
  unfold stp
  have h := Nat.xor_mod_two_eq_one (a := a) (b := b)
  rw [xor_div2]
  by_cases ha : a % 2 = 1 <;> by_cases hb : b % 2 = 1 <;> simp [ha, hb, h]
  · rw [Nat.xor_assoc, Nat.xor_comm 3988292384, Nat.xor_assoc, Nat.xor_self, Nat.xor_zero]
  · rw [Nat.xor_assoc, Nat.xor_comm (b / 2), Nat.xor_assoc]
  · rw [Nat.xor_assoc]
theorem stps_xor (n a b : Nat) : stps n (a ^^^ b) = stps n a ^^^ stps n b := by
  induction n generalizing a b with
  | zero => rfl
  | succ n ih => simp only [stps, stp_xor, ih]
theorem stp_zero : stp 0 = 0 := rfl
theorem stps_zero (n : Nat) : stps n 0 = 0 := by induction n with
  | zero => rfl
  | succ n ih => simp only [stps, stp_zero, ih]
theorem stp_twice (x : Nat) : stp (2 * x) = x := by unfold stp; rw [if_neg (by omega)]; omega
theorem stps_shift (n x : Nat) : stps n (2 ^ n * x) = x := by
  induction n with
  | zero => simp [stps]
  | succ n ih =>
    have e : 2 ^ (n + 1) * x = 2 * (2 ^ n * x) := by rw [Nat.pow_succ, Nat.mul_comm (2 ^ n) 2, Nat.mul_assoc]
    rw [e, stps, stp_twice, ih]
theorem stp_lt {x : Nat} (h : x < 4294967296) : stp x < 4294967296 := by
  unfold stp
  split
  · exact Nat.xor_lt_two_pow (n := 32) (by omega) (by omega)
  · omega
theorem stps_lt (n : Nat) {x : Nat} (h : x < 4294967296) : stps n x < 4294967296 := by
  induction n generalizing x with
  | zero => exact h
  | succ n ih => exact ih (stp_lt h)
theorem xor_lt32 {a b : Nat} (ha : a < 4294967296) (hb : b < 4294967296) : a ^^^ b < 4294967296 := Nat.xor_lt_two_pow (n := 32) ha hb
theorem stpB_lt {x : Nat} (c : UInt8) (h : x < 4294967296) : stpB x c < 4294967296 := stps_lt 8 (xor_lt32 h (by have := c.toNat_lt; omega))
theorem crcF_lt (l : List UInt8) : ∀ {x : Nat}, x < 4294967296 → crcF x l < 4294967296 := by
  induction l with
  | nil => exact fun h => h
  | cons c l ih => exact fun h => ih (stpB_lt c h)
theorem crcF_append (x : Nat) (l m : List UInt8) : crcF x (l ++ m) = crcF (crcF x l) m := by simp [crcF]
theorem crcF_snoc (x : Nat) (l : List UInt8) (c : UInt8) : crcF x (l ++ [c]) = stpB (crcF x l) c := by simp [crcF]
/-- Four bits at once, by the table. -/
theorem nibble (x : Nat) : stps 4 x = (x / 16) ^^^ tabN (x % 16) := by
  have h : x = (2 ^ 4 * (x / 16)) ^^^ (x % 16) := by
    have e := Nat.two_pow_add_eq_or_of_lt (i := 4) (b := x % 16) (by omega) (x / 16)
    have e2 : 2 ^ 4 * (x / 16) ||| x % 16 = 2 ^ 4 * (x / 16) ^^^ x % 16 := by
      apply Nat.eq_of_testBit_eq
      intro i
      rw [Nat.testBit_or, Nat.testBit_xor, Nat.testBit_two_pow_mul]
      by_cases hi : 4 ≤ i
      · rw [Nat.testBit_lt_two_pow (x := x % 16) (i := i) (Nat.lt_of_lt_of_le (show x % 16 < 2 ^ 4 by omega) (Nat.pow_le_pow_right (by omega) hi))]
        simp
      · simp [hi]
    omega
  have h2 : stps 4 x = stps 4 ((2 ^ 4 * (x / 16)) ^^^ (x % 16)) := by rw [← h]
  rw [h2, stps_xor, stps_shift]
  rfl
theorem stpB_nibbles (x : Nat) (c : UInt8) : stpB x c = (stps 4 (x ^^^ c.toNat) / 16) ^^^ tabN (stps 4 (x ^^^ c.toNat) % 16) := by
  rw [← nibble, ← stps_add]
  rfl
theorem tabN_lt (i : Nat) (h : i < 16) : tabN i < 4294967296 := stps_lt 4 (by omega)

/-- The bytes as one number, the first byte lowest. -/
def leN : List UInt8 → Nat
  | [] => 0
  | c :: l => c.toNat + 256 * leN l
theorem add_xor_byte (c : UInt8) (y : Nat) : c.toNat + 256 * y = c.toNat ^^^ (2 ^ 8 * y) := by
  have hc := c.toNat_lt
  have e := Nat.two_pow_add_eq_or_of_lt (i := 8) (b := c.toNat) (by omega) y
  have e2 : 2 ^ 8 * y ||| c.toNat = c.toNat ^^^ 2 ^ 8 * y := by
    apply Nat.eq_of_testBit_eq
    intro i
    rw [Nat.testBit_or, Nat.testBit_xor, Nat.testBit_two_pow_mul]
    by_cases hi : 8 ≤ i
    · rw [Nat.testBit_lt_two_pow (x := c.toNat) (i := i) (Nat.lt_of_lt_of_le hc (Nat.pow_le_pow_right (by omega) hi))]
      simp
    · simp [hi]
  omega
theorem crcF_leN (l : List UInt8) : ∀ x, crcF x l = stps (8 * l.length) (x ^^^ leN l) := by
  induction l with
  | nil => intro x; simp [crcF, leN, stps]
  | cons c l ih =>
    intro x
    show crcF (stpB x c) l = _
    rw [ih, List.length_cons, show 8 * (l.length + 1) = 8 + 8 * l.length from by omega, stps_add, leN, add_xor_byte, ← Nat.xor_assoc, stps_xor 8, stps_shift]
    rfl
theorem stp_ne {x : Nat} (h : x < 4294967296) (h0 : x ≠ 0) : stp x ≠ 0 := by
  unfold stp
  split
  · intro he
    have hb : ((x / 2) ^^^ 3988292384).testBit 31 = true := by
      rw [Nat.testBit_xor, Nat.testBit_lt_two_pow (x := x / 2) (i := 31) (by omega)]
      decide
    rw [he] at hb
    simp at hb
  · omega
theorem stps_ne (n : Nat) {x : Nat} (h : x < 4294967296) (h0 : x ≠ 0) : stps n x ≠ 0 := by
  induction n generalizing x with
  | zero => exact h0
  | succ n ih => exact ih (stp_lt h) (stp_ne h h0)
/-- A change within 32 consecutive bits turns the checksum. -/
theorem crc_sees (b c : List UInt8) (change k : Nat) (hl : c.length = b.length) (hc : leN c = leN b ^^^ (2 ^ k * change)) (h0 : change ≠ 0) (h32 : change < 4294967296) (hk : k ≤ 8 * b.length) : crc c ≠ crc b := by
  unfold crc
  have h1 := crcF_lt c (x := 4294967295) (by omega)
  have h2 := crcF_lt b (x := 4294967295) (by omega)
  intro he
  have he2 : crcF 4294967295 c = crcF 4294967295 b := by omega
  rw [crcF_leN, crcF_leN, hl, hc, ← Nat.xor_assoc, stps_xor _ _ (2 ^ k * change)] at he2
  have h3 : stps (8 * b.length) (2 ^ k * change) = 0 := by
    have := congrArg (fun z => stps (8 * b.length) (4294967295 ^^^ leN b) ^^^ z) he2
    simpa [← Nat.xor_assoc] using this
  rw [show 8 * b.length = k + (8 * b.length - k) from by omega, stps_add, stps_shift] at h3
  exact stps_ne _ h32 h0 h3
theorem not32 (y : Nat) (hy : y < 4294967296) : 4294967295 ^^^ y = 4294967295 - y := by
  have h := congrArg BitVec.toNat (BitVec.allOnes_xor (x := BitVec.ofNat 32 y))
  rw [BitVec.toNat_not, BitVec.toNat_xor, BitVec.toNat_ofNat, BitVec.toNat_allOnes, Nat.mod_eq_of_lt hy] at h
  exact h
end Go.Proofs.Ytfkbmnlohaghbaa
