/- Plain mathematics of chapter 1: rows of numbers and blocks, written and read back, whole or with the last byte cut off. -/
import Derived.Test.YtfkbmnlohaghbaaPlain3
namespace Go.Proofs.Ytfkbmnlohaghbaa
set_option linter.unusedVariables false
set_option linter.unusedSimpArgs false

def nPart (xs : List Nat) (j : Nat) : List UInt8 := if h : j < xs.length then num xs[j] else []
def bPart (ls : List (List UInt8)) (j : Nat) : List UInt8 := if h : j < ls.length then num ls[j].length ++ ls[j] else []
/-- What items from j on write, n of them. -/
def rowsOf (xs : List Nat) (ls : List (List UInt8)) : Nat → Nat → List UInt8
  | 0, _ => []
  | n + 1, j => nPart xs j ++ (bPart ls j ++ rowsOf xs ls n (j + 1))
theorem nPart_length (xs : List Nat) (hx : ∀ x ∈ xs, x < 18446744073709551616) (j : Nat) : (nPart xs j).length ≤ 9 := by
  unfold nPart
  split
  · next h =>
    rw [num_length]
    have := nlen_le8 (hx _ (List.getElem_mem h))
    omega
  · simp
theorem bPart_length (ls : List (List UInt8)) (hl : ∀ l ∈ ls, l.length ≤ 3000) (j : Nat) : (bPart ls j).length ≤ 3009 := by
  unfold bPart
  split
  · next h =>
    have h3 := hl _ (List.getElem_mem h)
    rw [List.length_append, num_length]
    have := nlen_le8 (x := ls[j].length) (by omega)
    omega
  · simp
theorem rowsOf_length (xs : List Nat) (ls : List (List UInt8)) (hx : ∀ x ∈ xs, x < 18446744073709551616) (hl : ∀ l ∈ ls, l.length ≤ 3000) : ∀ n j, (rowsOf xs ls n j).length ≤ n * 3018
  | 0, _ => by simp [rowsOf]
  | n + 1, j => by
    have h1 := nPart_length xs hx j
    have h2 := bPart_length ls hl j
    have h3 := rowsOf_length xs ls hx hl n (j + 1)
    simp only [rowsOf, List.length_append]
    omega
theorem num_ne (x : Nat) : num x ≠ [] := by simp [num]
/-- A reader of the same bytes without the last: it stands at the same place, or has failed for want of bytes. -/
def Short (l : List UInt8) (e : Nat) (m : List UInt8) : Prop := (e = 0 ∧ l = m.dropLast ∧ m ≠ []) ∨ e = 5
theorem short_num {l : List UInt8} {e x : Nat} {m : List UInt8} (hx : x < 18446744073709551616) (h : Short l e (num x ++ m)) : Short (rNum l e).2.1 (rNum l e).2.2 m := by
  rcases h with ⟨rfl, rfl, _⟩ | rfl
  · by_cases hm : m = []
    · subst hm
      refine Or.inr ?_
      have h8 := nlen_le8 hx
      have hn : (UInt8.ofNat (nlen x)).toNat = nlen x := by rw [UInt8.toNat_ofNat']; omega
      have hb := be_length (nlen x) x
      rw [List.append_nil]
      unfold num rNum
      rw [if_neg (by omega)]
      by_cases h0 : be (nlen x) x = []
      · rw [h0]; rfl
      · rw [List.dropLast_cons_of_ne_nil h0]
        simp only
        have hp : 0 < (be (nlen x) x).length := List.length_pos_iff.2 h0
        rw [hn, if_neg (by omega), if_pos (by rw [List.length_dropLast]; omega)]
    · rw [List.dropLast_append_of_ne_nil hm, rnum_num x hx]
      exact Or.inl ⟨rfl, rfl, hm⟩
  · refine Or.inr ?_
    unfold rNum
    rw [if_pos (by omega)]
theorem short_blk {l : List UInt8} {e : Nat} {b m : List UInt8} (hb : b.length ≤ 1048576) (h : Short l e (num b.length ++ (b ++ m))) : Short (rBlk l e).2.1 (rBlk l e).2.2 m := by
  rcases h with ⟨rfl, rfl, _⟩ | rfl
  · by_cases hm : m = []
    · subst hm
      refine Or.inr ?_
      rw [List.append_nil]
      by_cases h0 : b = []
      · subst h0
        have h1 : (num ([] : List UInt8).length ++ []).dropLast = [] := by simp [num, nlen_zero, be]
        rw [h1]
        rfl
      · rw [List.dropLast_append_of_ne_nil h0]
        unfold rBlk
        rw [rnum_num _ (by omega)]
        simp only
        rw [if_neg (by omega), if_neg (by omega)]
        unfold rFix
        have hp : 0 < b.length := List.length_pos_iff.2 h0
        rw [if_neg (by omega), if_pos (by rw [List.length_dropLast]; omega)]
    · rw [← List.append_assoc, List.dropLast_append_of_ne_nil hm, rblk_num b _ hb]
      exact Or.inl ⟨rfl, rfl, hm⟩
  · refine Or.inr ?_
    unfold rBlk
    have : rNum l 5 = (0, l, 5) := by unfold rNum; rw [if_pos (by omega)]
    rw [this]
    rfl
end Go.Proofs.Ytfkbmnlohaghbaa
