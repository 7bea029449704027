/- Arguments that are arrays of bytes; six and seven arguments. -/
import Derived.Test.YtbhaekdfpfncnaaDoorLaid
import Derived.Test.YtbhaekdfpfncnaaDoorRowKit
namespace Go.Proofs.YtbhaekdfpfncnaaDoor
set_option linter.unusedVariables false
set_option linter.unusedSimpArgs false
open Go.ChangeShapes Go.WideShapes Go.ChangeAt Go.RowKit

section
variable {H : Type} {enc : TypeId × Value → H} {P : Program} {w : World} {base : Nat} {spare : Nat → Bool} {held : Bool}
theorem okWide_arr {n : Nat} {e t : TypeId} {r : Reach} {b0 : Nat} {W : World} {v : Value} (ht : P.underlying t = some (.array n e)) (h : Value.okWide P W r b0 t v) : ∃ cs, v = .agg cs ∧ cs.size = P.cellsOf t := by
  simp only [Value.okWide, ht] at h
  obtain ⟨cs, h1, h2, _⟩ := h
  exact ⟨cs, h1, h2⟩
theorem u8_of_wf {x : Int} (h : (Lit.int .u8 x).wf = true) : ∃ n : UInt8, x = (n.toNat : Int) := by
  have hx : 0 ≤ x ∧ x ≤ 255 := by simpa [Lit.wf, IntKind.min, IntKind.max, IntKind.signed, IntKind.bits] using h
  refine ⟨UInt8.ofNat x.toNat, ?_⟩
  rw [UInt8.toNat_ofNat']
  omega
theorem bytes_of_cells : ∀ (cs : List Value), (∀ i, i < cs.length → ∃ n : UInt8, cs[i]? = some (.int .u8 (n.toNat : Int))) → ∃ l : List UInt8, cs = bc l ∧ l.length = cs.length
  | [], _ => ⟨[], rfl, rfl⟩
  | c :: cs, h => by
    obtain ⟨l, hl, hn⟩ := bytes_of_cells cs fun i hi => by simpa using h (i + 1) (by simpa using hi)
    obtain ⟨n, hc⟩ := h 0 (by simp)
    simp at hc
    exact ⟨n :: l, by rw [hc, hl]; simp [bc], by simp [hn]⟩
theorem open_arr {n : Nat} {e t : TypeId} (ht : P.underlying t = some (.array n e)) (he : P.underlying e = some (.int .u8)) (hc : P.cellsOf e = 1) (hn : P.cellsOf t = n) {r : Reach} {b0 : Nat} {W : World} {v : Value} {d : DataW H} {ps : List MemPlace}
    (hval : Value.okWide P W r b0 t v) (h : DataW.Trod enc P W 0 (fun _ => true) true t v d ps) :
    ∃ l : List UInt8, v = .agg (bc l).toArray ∧ l.length = n := by
  obtain ⟨cs, rfl, hs⟩ := okWide_arr ht hval
  obtain ⟨fuel, hf⟩ := h
  have hf' : DataW.trod enc P W 0 (fun _ => true) true fuel t cs.toList = some (d, ps) := by simpa [Value.cells] using hf
  obtain ⟨xs, m, _, _, _, hxn, hel⟩ := DataW.trod_array ht hf'
  have hsn : cs.toList.length = n := by rw [Array.length_toList, hs, hn]
  obtain ⟨l, hl, hll⟩ := bytes_of_cells cs.toList fun i hi => by
    have h1 := hel i (by omega)
    rw [hc, Nat.mul_one, List.getElem?_eq_getElem (show i < xs.length by omega)] at h1
    obtain ⟨k, e1, _, e3⟩ := DataW.trod_int he h1
    obtain ⟨u, rfl⟩ := u8_of_wf e3
    refine ⟨u, ?_⟩
    have : ((cs.toList.drop i).take 1)[0]? = some (.int .u8 (u.toNat : Int)) := by rw [e1]; rfl
    rw [List.getElem?_take, if_pos (by decide), List.getElem?_drop, Nat.add_zero] at this
    exact this
  exact ⟨l, by rw [← hl, Array.toArray_toList], by omega⟩
theorem trodAll_six {t0 t1 t2 t3 t4 t5 : TypeId} {args : Array Value} {ds : List (DataW H)} {ps : List MemPlace} (h : DataW.TrodAll enc P w base spare held [t0, t1, t2, t3, t4, t5] args.toList ds ps) :
    ∃ v0 v1 v2 v3 v4 v5 d0 d1 d2 d3 d4 d5 p0 p1 p2 p3 p4 p5, args = #[v0, v1, v2, v3, v4, v5] ∧ ds = [d0, d1, d2, d3, d4, d5] ∧ DataW.Trod enc P w base spare held t0 v0 d0 p0 ∧ DataW.Trod enc P w base spare held t1 v1 d1 p1 ∧ DataW.Trod enc P w base spare held t2 v2 d2 p2 ∧ DataW.Trod enc P w base spare held t3 v3 d3 p3 ∧ DataW.Trod enc P w base spare held t4 v4 d4 p4 ∧ DataW.Trod enc P w base spare held t5 v5 d5 p5 := by
  obtain ⟨v0, vs, d0, ds, p0, q0, ha, rfl, _, h0, h⟩ := trodAll_cons h
  obtain ⟨v1, vs, d1, ds, p1, q1, rfl, rfl, _, h1, h⟩ := trodAll_cons h
  obtain ⟨v2, vs, d2, ds, p2, q2, rfl, rfl, _, h2, h⟩ := trodAll_cons h
  obtain ⟨v3, vs, d3, ds, p3, q3, rfl, rfl, _, h3, h⟩ := trodAll_cons h
  obtain ⟨v4, vs, d4, ds, p4, q4, rfl, rfl, _, h4, h⟩ := trodAll_cons h
  obtain ⟨v5, vs, d5, ds, p5, q5, rfl, rfl, _, h5, h⟩ := trodAll_cons h
  obtain ⟨rfl, rfl⟩ : vs = [] ∧ ds = [] := by
    cases vs <;> cases ds <;> simp [DataW.TrodAll] at h ⊢
  exact ⟨v0, v1, v2, v3, v4, v5, d0, d1, d2, d3, d4, d5, p0, p1, p2, p3, p4, p5, by cases args; simp_all, rfl, h0, h1, h2, h3, h4, h5⟩
theorem trodAll_seven {t0 t1 t2 t3 t4 t5 t6 : TypeId} {args : Array Value} {ds : List (DataW H)} {ps : List MemPlace} (h : DataW.TrodAll enc P w base spare held [t0, t1, t2, t3, t4, t5, t6] args.toList ds ps) :
    ∃ v0 v1 v2 v3 v4 v5 v6 d0 d1 d2 d3 d4 d5 d6 p0 p1 p2 p3 p4 p5 p6, args = #[v0, v1, v2, v3, v4, v5, v6] ∧ ds = [d0, d1, d2, d3, d4, d5, d6] ∧ DataW.Trod enc P w base spare held t0 v0 d0 p0 ∧ DataW.Trod enc P w base spare held t1 v1 d1 p1 ∧ DataW.Trod enc P w base spare held t2 v2 d2 p2 ∧ DataW.Trod enc P w base spare held t3 v3 d3 p3 ∧ DataW.Trod enc P w base spare held t4 v4 d4 p4 ∧ DataW.Trod enc P w base spare held t5 v5 d5 p5 ∧ DataW.Trod enc P w base spare held t6 v6 d6 p6 := by
  obtain ⟨v0, vs, d0, ds, p0, q0, ha, rfl, _, h0, h⟩ := trodAll_cons h
  obtain ⟨v1, vs, d1, ds, p1, q1, rfl, rfl, _, h1, h⟩ := trodAll_cons h
  obtain ⟨v2, vs, d2, ds, p2, q2, rfl, rfl, _, h2, h⟩ := trodAll_cons h
  obtain ⟨v3, vs, d3, ds, p3, q3, rfl, rfl, _, h3, h⟩ := trodAll_cons h
  obtain ⟨v4, vs, d4, ds, p4, q4, rfl, rfl, _, h4, h⟩ := trodAll_cons h
  obtain ⟨v5, vs, d5, ds, p5, q5, rfl, rfl, _, h5, h⟩ := trodAll_cons h
  obtain ⟨v6, vs, d6, ds, p6, q6, rfl, rfl, _, h6, h⟩ := trodAll_cons h
  obtain ⟨rfl, rfl⟩ : vs = [] ∧ ds = [] := by
    cases vs <;> cases ds <;> simp [DataW.TrodAll] at h ⊢
  exact ⟨v0, v1, v2, v3, v4, v5, v6, d0, d1, d2, d3, d4, d5, d6, p0, p1, p2, p3, p4, p5, p6, by cases args; simp_all, rfl, h0, h1, h2, h3, h4, h5, h6⟩
end
end Go.Proofs.YtbhaekdfpfncnaaDoor
