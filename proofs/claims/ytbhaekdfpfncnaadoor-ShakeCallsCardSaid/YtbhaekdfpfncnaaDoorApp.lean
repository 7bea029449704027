/- append to a slice that is full: a new array, whatever the old one is. No program. -/
import Derived.Test.YtbhaekdfpfncnaaDoorMac
import Derived.Deep.Upon
namespace Go.Proofs.YtbhaekdfpfncnaaDoor
set_option linter.unusedVariables false
set_option linter.unusedSimpArgs false
open Go.RowKit

section
variable {P : Program}
/-- The operation that writes slot n stands next. -/
theorem at_slot {ops : Array Oper} {rest : List Oper} {a : Act} {w : World} {Q : Exit → Act → World → Prop} (n : Tmp) {op : Op} {ty : TypeId} {ps : String} {af : Array Edge} {gd : Option (Nat × Bool)}
    (h : wpList P ops Q ({ dst := some n, op := op, type := ty, pos := ps, after := af, guard := gd } :: rest) a w) : wpList P ops Q ({ dst := some n, op := op, type := ty, pos := ps, after := af, guard := gd } :: rest) a w := h
theorem run_append_full (w : World) (t ty e : TypeId) (i : TypeInfo) (z : Value) (ht : P.underlying t = some (.slice e)) (hi : P.info? e = some i) (hz : i.zero = some z) (hsize : i.size = 1) (hby : i.bytes = 1) (hzs : z.cells.size = 1)
    (b : Addr) (l0 : List UInt8) (F0 : Nat → Prop) (h0 : Rd w F0 (some b) (bc l0)) (A : Option Addr) (c : Nat) (l : List UInt8) (F : Nat → Prop) (hr : Rd w F A (bc l)) (hb : l0.length + l.length ≤ 70368744177664) :
    ∃ b' c' w', (Builtin.append_ #[t, t] ty #[.slice (some b) l0.length l0.length, .slice A l.length c]).run P w = .ok (.slice (some b') (l0 ++ l).length c') w' ∧ Rd w' (fun _ => True) (some b') (bc (l0 ++ l)) ∧ (l0 ++ l).length ≤ c' ∧ NewMem w w' := by
  cases hl : l with
  | nil =>
    subst hl
    have hsrc : Src P i.size t (.slice A 0 c) 0 [] w := by
      cases A with
      | none => exact Src.ofNil w ht c
      | some ad => exact Src.ofSlice w ht ad 0 c [] (by simp) (fun j u h => by simp at h) (fun u h => by cases h)
    have := run_append_nothing w t t ty e i ht hi (some b) l0.length l0.length (Nat.le_refl _) (.slice A 0 c) hsrc
    refine ⟨b, l0.length, w, ?_, ?_, ?_, NewMem.refl _⟩
    · rw [List.append_nil]; exact this
    · rw [List.append_nil]; exact h0.mono fun _ _ _ => trivial
    · rw [List.append_nil]; exact Nat.le_refl _
  | cons x l' =>
    rw [← hl]
    have hpos : 0 < l.length := by rw [hl]; simp
    obtain ⟨ad, rfl, _, hc⟩ := hr.some (by rw [hl]; simp [bc])
    have hc0 : ∀ j u, (bc l0)[j]? = some u → w.cell? (b.add j) = some u := fun j u hu => by
      obtain ⟨ad', e', _, h'⟩ := h0 j u hu
      injection e' with e'
      subst e'
      exact h'
    have hlen : (l0 ++ l).length = l0.length + l.length := List.length_append
    have h := run_append_grow (P := P) w t ty e i z ht hi hz b l0.length l0.length (bc l0) (by rw [hsize]; simp) hc0 ad l.length c (bc l) (by rw [hsize]; simp) hc (by omega) (by omega) (growslice_fits (by omega) (by rw [hby]; omega))
    have hge := grownCap_ge w (l0.length + l.length) l0.length e
    generalize grownCap w (l0.length + l.length) l0.length e = g at *
    refine ⟨⟨w.heap.size, 0, none⟩, g, _, by rw [hlen]; exact h, ?_, by rw [hlen]; exact hge, NewMem.more (Below.drew (NewMem.refl w)) _⟩
    have hrd := rd_lit w.drew ((bc l0).toArray ++ (bc l).toArray ++ Builtin.zeroCells z.cells (g - (l0.length + l.length))) e (0, 0)
    have htk := hrd.take (l0 ++ l).length
    have e1 : ((bc l0).toArray ++ (bc l).toArray ++ Builtin.zeroCells z.cells (g - (l0.length + l.length))).toList.take (l0 ++ l).length = bc (l0 ++ l) := by
      rw [Array.toList_append, Array.toList_append, ← bc_append]
      rw [List.take_append_of_le_length (by simp), List.take_of_length_le (by simp)]
    rw [e1] at htk
    exact htk.mono fun _ _ _ => trivial

theorem wpList_append_full {w : World} {ops : Array Oper} {rest : List Oper} {o : Oper} {a : Act} {Q : Exit → Act → World → Prop} (hgd : o.guard = none) (s x : Operand) (t : TypeId)
    (ho : o.op = .call { callee := .builtin .append, args := #[s, x], argTypes := #[t, t] })
    (e : TypeId) (i : TypeInfo) (z : Value) (ht : P.underlying t = some (.slice e)) (hi : P.info? e = some i) (hz : i.zero = some z) (hsize : i.size = 1) (hby : i.bytes = 1) (hzs : z.cells.size = 1)
    (b : Addr) (l0 : List UInt8) (hs : a.eval s = .slice (some b) l0.length l0.length) (F0 : Nat → Prop) (h0 : Rd w F0 (some b) (bc l0)) (A : Option Addr) (m c : Nat) (l : List UInt8) (hx : a.eval x = .slice A m c) (hm : m = l.length) (F : Nat → Prop) (hr : Rd w F A (bc l)) (hb : l0.length + l.length ≤ 70368744177664)
    (h : ∀ b' c' w', Rd w' (fun _ => True) (some b') (bc (l0 ++ l)) → (l0 ++ l).length ≤ c' → NewMem w w' → wpList P ops Q rest (a.put o.dst (.slice (some b') (l0 ++ l).length c')) w') : wpList P ops Q (o :: rest) a w :=
  wpList_plain hgd fun K hK => by
    subst hm
    obtain ⟨b', c', w', hrun, h2, h3, h4⟩ := run_append_full (P := P) w t o.type e i z ht hi hz hsize hby hzs b l0 F0 h0 A c l F hr hb
    unfold Oper.wp execOp
    simp only [ho, resolve, invoke, builtin, Sem.run_bind, Sem.run_pure, Result.andThen_ok, List.map_toArray, List.map_cons, List.map_nil, hs, hx, hrun]
    exact hK _ _ (h b' c' w' h2 h3 h4)
end
end Go.Proofs.YtbhaekdfpfncnaaDoor
