/- Plain mathematics of chapter 1: the bytes of a number. No program, no memory. -/
import Derived.WalkKit
namespace Go.Proofs.YtbhaekdfpfncnaaDoor
set_option linter.unusedVariables false
set_option linter.unusedSimpArgs false

/-- How many bytes a number needs. -/
def nlen (x : Nat) : Nat := if x = 0 then 0 else 1 + nlen (x / 256)
termination_by x
decreasing_by omega
/-- The low n bytes of x, the highest first. -/
def be : Nat → Nat → List UInt8
  | 0, _ => []
  | n + 1, x => UInt8.ofNat (x / 256 ^ n) :: be n x
/-- The bytes of a number. -/
def num (x : Nat) : List UInt8 := UInt8.ofNat (nlen x) :: be (nlen x) x

theorem nlen_zero : nlen 0 = 0 := by unfold nlen; simp
theorem nlen_pos {x : Nat} (h : 0 < x) : nlen x = 1 + nlen (x / 256) := by rw [nlen]; rw [if_neg (by omega)]
theorem nlen_le : ∀ (n x : Nat), x < 256 ^ n → nlen x ≤ n
  | 0, x, h => by have : x = 0 := by simpa using h
                  subst this; simp [nlen_zero]
  | n + 1, x, h => by
    rcases Nat.eq_zero_or_pos x with h0 | h0
    · subst h0; simp [nlen_zero]
    · rw [nlen_pos h0]
      have := nlen_le n (x / 256) (by rw [Nat.pow_succ] at h; omega)
      omega
theorem nlen_le8 {x : Nat} (h : x < 18446744073709551616) : nlen x ≤ 8 := nlen_le 8 x h
theorem be_length : ∀ (n x : Nat), (be n x).length = n
  | 0, _ => rfl
  | n + 1, x => by simp [be, be_length n x]
theorem num_length (x : Nat) : (num x).length = nlen x + 1 := by simp [num, be_length]
/-- One step of the second loop: of j bytes still to be written the first is written. -/
theorem be_get : ∀ (n x m : Nat) (h : m < n), (be n x)[m]? = some (UInt8.ofNat (x / 256 ^ (n - 1 - m)))
  | n + 1, x, 0, _ => by simp [be]
  | n + 1, x, m + 1, h => by
    simp only [be, List.getElem?_cons_succ]
    rw [be_get n x m (by omega)]
    congr 4
    omega
theorem be_take_succ (n x j : Nat) (h : j + 1 ≤ n) : (be n x).take (n - j) = (be n x).take (n - (j + 1)) ++ [UInt8.ofNat (x / 256 ^ j)] := by
  have e : n - j = (n - (j + 1)) + 1 := by omega
  rw [e, List.take_add_one, be_get n x (n - (j + 1)) (by omega)]
  have e2 : n - 1 - (n - (j + 1)) = j := by omega
  rw [e2]
  rfl
theorem pow256 (j : Nat) : (256 : Nat) ^ j = 2 ^ (8 * j) := by rw [Nat.pow_mul]
theorem shr_byte (x j : Nat) : ((x : Int) / 2 ^ (8 * j) % 256) = ((UInt8.ofNat (x / 256 ^ j)).toNat : Int) := by
  rw [UInt8.toNat_ofNat', pow256, show (2 : Nat) ^ 8 = 256 from rfl, Int.natCast_emod, Int.natCast_ediv, Int.natCast_pow]
  rfl

/-- The number that bytes say, the highest first. -/
def val (l : List UInt8) : Nat := l.foldl (fun a c => a * 256 + c.toNat) 0
theorem val_nil : val [] = 0 := rfl
theorem val_snoc (l : List UInt8) (c : UInt8) : val (l ++ [c]) = val l * 256 + c.toNat := by simp [val]
theorem val_lt (l : List UInt8) : val l < 256 ^ l.length := by
  rw [← List.reverse_reverse l]
  induction l.reverse with
  | nil => simp [val]
  | cons c m ih =>
    rw [List.reverse_cons, val_snoc, List.length_append, List.length_singleton, Nat.pow_succ]
    have := c.toNat_lt
    omega
theorem val_take_succ (l : List UInt8) (k : Nat) (h : k < l.length) : val (l.take (k + 1)) = val (l.take k) * 256 + l[k].toNat := by
  rw [List.take_succ_eq_append_getElem h, val_snoc]

theorem or_byte (v y : Nat) (hv : v < 72057594037927936) (hy : y < 256) : bits .or .u64 ((v : Int) * 256) (IntKind.u64.wrap (y : Int)) = ((v * 256 + y : Nat) : Int) := by
  rw [IntWalk.u64_in (y : Int) ⟨by omega, by omega⟩]
  have h : (v : Int) * 256 = ((2 ^ 8 * v : Nat) : Int) := by omega
  rw [h, u64_or_nat _ _ (by omega) (by omega), ← Nat.two_pow_add_eq_or_of_lt (by omega)]
  congr 1
  omega
theorem pow256_le {k : Nat} (h : k ≤ 7) : 256 ^ k ≤ 72057594037927936 := Nat.pow_le_pow_right (n := 256) (by omega) h
/-- What a reader's Number does: the number, what is left, the error. -/
def rNum (l : List UInt8) (e : Nat) : Nat × List UInt8 × Nat :=
  if 0 < e then (0, l, e) else
  match l with
  | [] => (0, [], 5)
  | n :: t => if 8 < n.toNat then (0, n :: t, 4) else if t.length < n.toNat then (0, n :: t, 5) else if 0 < n.toNat ∧ t[0]? = some 0 then (0, n :: t, 4) else (val (t.take n.toNat), t.drop n.toNat, 0)

def rUpto (l : List UInt8) (e most : Nat) : Nat × List UInt8 × Nat :=
  if 0 < (rNum l e).2.2 then (0, (rNum l e).2.1, (rNum l e).2.2) else if most < (rNum l e).1 then (0, (rNum l e).2.1, 3) else rNum l e
def rFix (l : List UInt8) (e k : Nat) : List UInt8 × List UInt8 × Nat :=
  if 0 < e then ([], l, e) else if l.length < k then ([], l, 5) else (l.take k, l.drop k, 0)
def rBlk (l : List UInt8) (e : Nat) : List UInt8 × List UInt8 × Nat :=
  if 0 < (rNum l e).2.2 then ([], (rNum l e).2.1, (rNum l e).2.2) else if 1048576 < (rNum l e).1 then ([], (rNum l e).2.1, 3) else rFix (rNum l e).2.1 0 (rNum l e).1
def rEnd (l : List UInt8) (e : Nat) : Nat := if 0 < e then e else if 0 < l.length then 4 else 0
theorem be_snoc : ∀ (n x : Nat), be (n + 1) x = be n (x / 256) ++ [UInt8.ofNat x]
  | 0, x => by simp [be]
  | n + 1, x => by
    rw [be, be_snoc n x]
    show _ = UInt8.ofNat (x / 256 / 256 ^ n) :: be n (x / 256) ++ _
    rw [Nat.div_div_eq_div_mul, Nat.pow_succ, Nat.mul_comm]
    rfl
theorem byte_mod (y : Nat) : ((y : Int) % 256) = ((UInt8.ofNat y).toNat : Int) := by
  rw [UInt8.toNat_ofNat', show (2 : Nat) ^ 8 = 256 from rfl, Int.natCast_emod]
  rfl
end Go.Proofs.YtbhaekdfpfncnaaDoor
