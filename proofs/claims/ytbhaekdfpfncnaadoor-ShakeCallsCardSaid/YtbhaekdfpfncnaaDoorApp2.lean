/- append of slices of slices to a slice that is full. No program. -/
import Derived.Test.YtbhaekdfpfncnaaDoorApp
namespace Go.Proofs.YtbhaekdfpfncnaaDoor
set_option linter.unusedVariables false
set_option linter.unusedSimpArgs false
open Go.RowKit

section
variable {P : Program}
theorem run_append_fullV (w : World) (t ty e : TypeId) (i : TypeInfo) (z : Value) (ht : P.underlying t = some (.slice e)) (hi : P.info? e = some i) (hz : i.zero = some z) (hsize : i.size = 1) (by_ : Nat) (hby : i.bytes = by_) (hzs : z.cells.size = 1)
    (b : Addr) (l0 : List Value) (F0 : Nat → Prop) (h0 : Rd w F0 (some b) l0) (A : Option Addr) (c : Nat) (l : List Value) (F : Nat → Prop) (hr : Rd w F A l) (hb : (l0.length + l.length) * by_ ≤ 140737488355328) (hb2 : l0.length + l.length ≤ 70368744177664) :
    ∃ b' c' w', (Builtin.append_ #[t, t] ty #[.slice (some b) l0.length l0.length, .slice A l.length c]).run P w = .ok (.slice (some b') (l0 ++ l).length c') w' ∧ Rd w' (fun _ => True) (some b') (l0 ++ l) ∧ (l0 ++ l).length ≤ c' ∧ NewMem w w' := by
  cases hl : l with
  | nil =>
    subst hl
    have hsrc : Src P i.size t (.slice A 0 c) 0 [] w := by
      cases A with
      | none => exact Src.ofNil w ht c
      | some ad => exact Src.ofSlice w ht ad 0 c [] (by simp) (fun j u h => by simp at h) (fun u h => by cases h)
    have := run_append_nothing w t t ty e i ht hi (some b) l0.length l0.length (Nat.le_refl _) (.slice A 0 c) hsrc
    refine ⟨b, l0.length, w, ?_, ?_, ?_, NewMem.refl _⟩
    · rw [List.append_nil]; exact this
    · rw [List.append_nil]; exact h0.mono fun _ _ _ => trivial
    · rw [List.append_nil]; exact Nat.le_refl _
  | cons x l' =>
    rw [← hl]
    have hpos : 0 < l.length := by rw [hl]; simp
    obtain ⟨ad, rfl, _, hc⟩ := hr.some (by rw [hl]; simp)
    have hc0 : ∀ j u, l0[j]? = some u → w.cell? (b.add j) = some u := fun j u hu => by
      obtain ⟨ad', e', _, h'⟩ := h0 j u hu
      injection e' with e'
      subst e'
      exact h'
    have hlen : (l0 ++ l).length = l0.length + l.length := List.length_append
    have h := run_append_grow (P := P) w t ty e i z ht hi hz b l0.length l0.length l0 (by rw [hsize]; simp) hc0 ad l.length c l (by rw [hsize]; simp) hc (by omega) (by omega) (growslice_fits (by omega) (by rw [hby]; exact hb))
    have hge := grownCap_ge w (l0.length + l.length) l0.length e
    generalize grownCap w (l0.length + l.length) l0.length e = g at *
    refine ⟨⟨w.heap.size, 0, none⟩, g, _, by rw [hlen]; exact h, ?_, by rw [hlen]; exact hge, NewMem.more (Below.drew (NewMem.refl w)) _⟩
    have hrd := rd_lit w.drew (l0.toArray ++ l.toArray ++ Builtin.zeroCells z.cells (g - (l0.length + l.length))) e (0, 0)
    have htk := hrd.take (l0 ++ l).length
    have e1 : (l0.toArray ++ l.toArray ++ Builtin.zeroCells z.cells (g - (l0.length + l.length))).toList.take (l0 ++ l).length = (l0 ++ l) := by
      rw [Array.toList_append, Array.toList_append]
      rw [List.take_append_of_le_length (by simp), List.take_of_length_le (by simp)]
    rw [e1] at htk
    exact htk.mono fun _ _ _ => trivial


theorem rdl_append {w w' : World} {F0 F : Nat → Prop} {A0 A A' : Option Addr} {ls0 ls : List (List UInt8)} {vs0 vs : List Value} (hl0 : vs0.length = ls0.length) (hl : vs.length = ls.length)
    (h0 : ∀ (i : Nat) (l : List UInt8), ls0[i]? = some l → ∃ a c, vs0[i]? = some (Value.slice a l.length c) ∧ Rd w F0 a (bc l) ∧ l.length ≤ c)
    (h1 : ∀ (i : Nat) (l : List UInt8), ls[i]? = some l → ∃ a c, vs[i]? = some (Value.slice a l.length c) ∧ Rd w F a (bc l) ∧ l.length ≤ c)
    (hr : Rd w' (fun _ => True) A' (vs0 ++ vs)) (hn : NewMem w w') : RdL w' (fun _ => True) A' (ls0 ++ ls) := by
  refine ⟨vs0 ++ vs, by rw [List.length_append, List.length_append, hl0, hl], hr, fun i l hi => ?_⟩
  rcases Nat.lt_or_ge i ls0.length with hlt | hge
  · rw [List.getElem?_append_left hlt] at hi
    obtain ⟨a, c, e, hr', hc⟩ := h0 i l hi
    exact ⟨a, c, by rw [List.getElem?_append_left (by omega)]; exact e, (hr'.below hn).mono fun _ _ _ => trivial, hc⟩
  · rw [List.getElem?_append_right hge] at hi
    obtain ⟨a, c, e, hr', hc⟩ := h1 _ l hi
    exact ⟨a, c, by rw [List.getElem?_append_right (by omega), hl0]; exact e, (hr'.below hn).mono fun _ _ _ => trivial, hc⟩
theorem run_append_lists (w : World) (t ty e : TypeId) (i : TypeInfo) (z : Value) (ht : P.underlying t = some (.slice e)) (hi : P.info? e = some i) (hz : i.zero = some z) (hsize : i.size = 1) (hby : i.bytes = 24) (hzs : z.cells.size = 1)
    (b : Addr) (ls0 : List (List UInt8)) (F0 : Nat → Prop) (h0 : RdL w F0 (some b) ls0) (A : Option Addr) (c : Nat) (ls : List (List UInt8)) (F : Nat → Prop) (hr : RdL w F A ls) (hb : ls0.length + ls.length ≤ 1099511627776) :
    ∃ b' c' w', (Builtin.append_ #[t, t] ty #[.slice (some b) ls0.length ls0.length, .slice A ls.length c]).run P w = .ok (.slice (some b') (ls0 ++ ls).length c') w' ∧ RdL w' (fun _ => True) (some b') (ls0 ++ ls) ∧ (ls0 ++ ls).length ≤ c' ∧ NewMem w w' := by
  obtain ⟨vs0, hl0, hr0, _, hi0⟩ := h0.vals
  obtain ⟨vs, hl, hr1, _, hi1⟩ := hr.vals
  obtain ⟨b', c', w', h1, h2, h3, h4⟩ := run_append_fullV (P := P) w t ty e i z ht hi hz hsize 24 hby hzs b vs0 F0 hr0 A c vs F hr1 (by rw [hl0, hl]; omega) (by omega)
  have e1 : (vs0 ++ vs).length = (ls0 ++ ls).length := by rw [List.length_append, List.length_append, hl0, hl]
  rw [hl0, hl, e1] at h1
  rw [e1] at h3
  exact ⟨b', c', w', h1, rdl_append (A0 := some b) (A := A) hl0 hl hi0 hi1 h2 h4, h3, h4⟩
end
end Go.Proofs.YtbhaekdfpfncnaaDoor
