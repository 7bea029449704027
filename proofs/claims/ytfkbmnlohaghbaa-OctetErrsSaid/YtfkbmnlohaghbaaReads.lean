/- An argument that is a slice of structs of two whole numbers, opened to words on memory. -/
import Derived.Test.YtfkbmnlohaghbaaOctetErrsW
import Derived.Test.YtfkbmnlohaghbaaRowKit
import Derived.Deep.SlicePairs
namespace Go.Proofs.Ytfkbmnlohaghbaa
set_option linter.unusedVariables false
set_option linter.unusedSimpArgs false
open Go.ChangeShapes Go.WideShapes Go.ChangeAt Go.RowKit

section
variable {H : Type} {enc : TypeId × Value → H} {P : Program}
theorem open_reads {t e : TypeId} {f0 f1 : Field} (ht : P.underlying t = some (.slice e)) (he : P.underlying e = some (.struct #[f0, f1])) (ce : P.cellsOf e = 2) (o0 : f0.offset = 0) (o1 : f1.offset = 1) (c0 : P.cellsOf f0.type = 1) (c1 : P.cellsOf f1.type = 1)
    (h0 : P.underlying f0.type = some (.int .i64)) (h1 : P.underlying f1.type = some (.int .i64)) {r : Reach} {b0 : Nat} {W : World} {v : Value} {d : DataW H} {ps : List MemPlace}
    (hval : Value.okWide P W r b0 t v) (h : DataW.Trod enc P W 0 (fun _ => true) true t v d ps) :
    ∃ (A : Option Addr) (rs : List (Int × Int)) (c : Nat), v = .slice A rs.length c ∧ Rd W (fun k => k < W.heap.size) A (rc rs) ∧ (∀ (j : Nat) (h : j < rs.length), (-9223372036854775808 ≤ rs[j].1 ∧ rs[j].1 ≤ 9223372036854775807) ∧ (-9223372036854775808 ≤ rs[j].2 ∧ rs[j].2 ≤ 9223372036854775807)) ∧ rs.length ≤ c ∧ c ≤ maxLen := by
  obtain ⟨a0, len, cap, rfl⟩ := okWide_slice ht hval
  obtain ⟨fuel, hf⟩ := h
  rcases Go.Deep.open_slice_pairs ht he ce o0 o1 c0 c1 hf with ⟨hcs, _⟩ | ⟨a, len', cap', m, n, V0, V1, D0, D1, P0, P1, hcs, _, hl, hm, hmm, _, hcell⟩
  · simp [Value.cells] at hcs
    obtain ⟨rfl, rfl, rfl⟩ := hcs
    exact ⟨none, [], 0, rfl, Rd.nil _ _ _, fun j h => by simp at h, Nat.le_refl _, Nat.zero_le _⟩
  · simp [Value.cells] at hcs
    obtain ⟨rfl, rfl, rfl⟩ := hcs
    simp only [if_true] at hmm
    have hlen : ((List.range len).map fun i => (intOf (V0 i), intOf (V1 i))).length = len := by simp
    have hval2 : ∀ i, i < len → ∃ x y, V0 i = .int .i64 x ∧ V1 i = .int .i64 y ∧ (Lit.int .i64 x).wf = true ∧ (Lit.int .i64 y).wf = true := fun i hi => by
      obtain ⟨_, _, t0, t1⟩ := hcell i (by omega)
      obtain ⟨x, hx, _, wx⟩ := DataW.trod_int h0 t0
      obtain ⟨y, hy, _, wy⟩ := DataW.trod_int h1 t1
      simp at hx hy
      exact ⟨x, y, hx, hy, wx, wy⟩
    refine ⟨some a, (List.range len).map fun i => (intOf (V0 i), intOf (V1 i)), cap, by rw [hlen], fun j u hu => ?_, fun j hj => ?_, by rw [hlen]; exact hl, hm⟩
    · have hj := (List.getElem?_eq_some_iff.1 hu).1
      rw [rc_length, hlen] at hj
      have hi : j / 2 < len := by omega
      obtain ⟨cl0, cl1, _, _⟩ := hcell (j / 2) (by omega)
      obtain ⟨x, y, hx, hy, _, _⟩ := hval2 (j / 2) hi
      have hg := rc_get ((List.range len).map fun i => (intOf (V0 i), intOf (V1 i))) (j / 2) (by rw [hlen]; exact hi)
      have hx' : intOf (V0 (j / 2)) = x := by rw [hx]; rfl
      have hy' : intOf (V1 (j / 2)) = y := by rw [hy]; rfl
      simp only [List.getElem_map, List.getElem_range, hx', hy'] at hg
      have hc : W.cell? (a.add j) = some u := by
        rcases Nat.mod_two_eq_zero_or_one j with hj2 | hj2
        · rw [show 2 * (j / 2) = j from by omega, hu] at hg
          rw [show j / 2 * 2 = j from by omega, hx] at cl0
          rw [cl0]
          exact hg.1.symm
        · rw [show 2 * (j / 2) + 1 = j from by omega, hu] at hg
          rw [show j / 2 * 2 + 1 = j from by omega, hy] at cl1
          rw [cl1]
          exact hg.2.symm
      have hlt := World.block_lt_of_cell? W _ hc
      rw [blk_add] at hlt
      exact ⟨a, rfl, hlt, hc⟩
    · rw [hlen] at hj
      obtain ⟨x, y, hx, hy, wx, wy⟩ := hval2 j hj
      simp only [List.getElem_map, List.getElem_range, hx, hy, intOf]
      exact ⟨int_of_wf wx, int_of_wf wy⟩
end
end Go.Proofs.Ytfkbmnlohaghbaa
