/- SHA-256 byte by byte: the state behind some bytes, and the bytes that wait. -/
import Derived.Test.YtbhaekdfpfncnaaDoorSha
namespace Go.Proofs.YtbhaekdfpfncnaaDoor
set_option linter.unusedVariables false
set_option linter.unusedSimpArgs false

theorem foldB_succ : ∀ (k : Nat) (s : S8) (l : List UInt8), foldB (k + 1) s l = blkF (foldB k s l) ((l.drop (64 * k)).take 64)
  | 0, s, l => by simp [foldB]
  | k + 1, s, l => by
    rw [foldB, foldB_succ k, foldB, List.drop_drop, show 64 + 64 * k = 64 * (k + 1) from by omega]
theorem foldB_app : ∀ (k : Nat) (s : S8) (m x : List UInt8), 64 * k ≤ m.length → foldB k s (m ++ x) = foldB k s m
  | 0, _, _, _, _ => rfl
  | k + 1, s, m, x, h => by
    rw [foldB, foldB, List.take_append_of_le_length (by omega), List.drop_append_of_le_length (by omega), foldB_app k _ _ _ (by rw [List.length_drop]; omega)]
theorem foldB_ok : ∀ (k : Nat) (s : S8) (l : List UInt8), s.ok → (foldB k s l).ok
  | 0, _, _, h => h
  | k + 1, s, l, _ => foldB_ok k _ _ (blkF_ok _ _)
theorem iv_ok : iv.ok := by unfold iv S8.ok; decide
/-- What waits behind m bytes: the first of 64 places. -/
def Waits (m q : List UInt8) : Prop := q.length = 64 ∧ q.take (m.length % 64) = m.drop (64 * (m.length / 64))
theorem waits_set {m q : List UInt8} (h : Waits m q) (c : UInt8) (hn : (m.length + 1) % 64 ≠ 0) : Waits (m ++ [c]) (q.set (m.length % 64) c) := by
  obtain ⟨h1, h2⟩ := h
  have e1 : (m ++ [c]).length = m.length + 1 := by simp
  refine ⟨by simpa using h1, ?_⟩
  rw [e1, show (m.length + 1) % 64 = m.length % 64 + 1 from by omega, show (m.length + 1) / 64 = m.length / 64 from by omega, List.drop_append_of_le_length (by omega), ← h2, List.take_add_one, List.take_set_of_le (Nat.le_refl _), List.getElem?_set_self (by omega)]
  rfl
theorem waits_full {m q : List UInt8} (h : Waits m q) (c : UInt8) (hn : (m.length + 1) % 64 = 0) : ((m ++ [c]).drop (64 * (m.length / 64))).take 64 = q.set (m.length % 64) c := by
  obtain ⟨h1, h2⟩ := h
  have hm : m.length % 64 = 63 := by omega
  rw [List.drop_append_of_le_length (by omega), ← h2, hm]
  have hq : q.set 63 c = q.take 63 ++ [c] := by
    apply List.ext_getElem?
    intro i
    rcases Nat.lt_trichotomy i 63 with hi | hi | hi
    · rw [List.getElem?_set_ne (by omega), List.getElem?_append_left (by rw [List.length_take]; omega), List.getElem?_take, if_pos hi]
    · subst hi
      rw [List.getElem?_set_self (by omega), List.getElem?_append_right (by rw [List.length_take]; omega), List.length_take, h1]
      rfl
    · rw [List.getElem?_eq_none (by rw [List.length_set]; omega), List.getElem?_eq_none (by rw [List.length_append, List.length_take]; simp; omega)]
  rw [hq, List.take_of_length_le (by simp; omega)]
/-- One byte more, and 64 are full. -/
theorem foldB_full {m q : List UInt8} (s : S8) (h : Waits m q) (c : UInt8) (hn : (m.length + 1) % 64 = 0) :
    foldB ((m ++ [c]).length / 64) s (m ++ [c]) = blkF (foldB (m.length / 64) s m) (q.set (m.length % 64) c) ∧ Waits (m ++ [c]) (q.set (m.length % 64) c) := by
  have e1 : (m ++ [c]).length = m.length + 1 := by simp
  have h1 := h.1
  refine ⟨?_, by simpa using h1, ?_⟩
  · rw [e1, show (m.length + 1) / 64 = m.length / 64 + 1 from by omega, foldB_succ, foldB_app _ _ _ _ (by omega), waits_full h c hn]
  · rw [e1, hn, List.take_zero, List.drop_of_length_le (by rw [e1]; omega)]
theorem foldB_more {m : List UInt8} (s : S8) (c : UInt8) (hn : (m.length + 1) % 64 ≠ 0) : foldB ((m ++ [c]).length / 64) s (m ++ [c]) = foldB (m.length / 64) s m := by
  have e1 : (m ++ [c]).length = m.length + 1 := by simp
  rw [e1, show (m.length + 1) / 64 = m.length / 64 from by omega, foldB_app _ _ _ _ (by omega)]
end Go.Proofs.YtbhaekdfpfncnaaDoor
