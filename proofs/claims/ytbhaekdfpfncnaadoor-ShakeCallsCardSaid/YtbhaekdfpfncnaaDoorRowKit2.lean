/- More arguments opened to words on memory: slices of numbers, slices of slices of bytes. -/
import Derived.Test.YtbhaekdfpfncnaaDoorRowKit
import Derived.Deep.Matrix
namespace Go.Proofs.YtbhaekdfpfncnaaDoor
set_option linter.unusedVariables false
set_option linter.unusedSimpArgs false
open Go.ChangeShapes Go.WideShapes Go.ChangeAt Go.RowKit

section
variable {H : Type} {enc : TypeId × Value → H} {P : Program}
def bytesOf (L : Nat) (zs : List Int) : List UInt8 := (zs.take L).map fun n => UInt8.ofNat n.toNat
theorem bytesOf_length {L : Nat} {zs : List Int} (h : L ≤ zs.length) : (bytesOf L zs).length = L := by unfold bytesOf; simp; omega
theorem rd_of_ints {W : World} {a : Addr} {zs : List Int} {L : Nat} (hL : L ≤ zs.length) (hcell : ∀ c, c < L → W.cell? (a.add c) = some (.int .u8 (zs.getD c 0))) (hwf : ∀ n ∈ zs, (Lit.int .u8 n).wf = true) :
    Rd W (fun k => k < W.heap.size) (some a) (bc (bytesOf L zs)) := fun j u hu => by
  have hlen := bytesOf_length hL
  have hj : j < L := by
    have := (List.getElem?_eq_some_iff.1 hu).1
    rw [bc_length, hlen] at this
    exact this
  have hc1 := hcell j hj
  have hlt := World.block_lt_of_cell? W _ hc1
  rw [blk_add] at hlt
  refine ⟨a, rfl, hlt, ?_⟩
  rw [hc1]
  have hw : (Lit.int .u8 (zs.getD j 0)).wf = true := hwf _ (by
    rw [List.getD, List.getElem?_eq_getElem (by omega)]
    exact List.getElem_mem _)
  have hw2 : 0 ≤ zs.getD j 0 ∧ zs.getD j 0 ≤ 255 := by
    simp [Lit.wf, IntKind.min, IntKind.max, IntKind.signed, IntKind.bits] at hw
    simpa using hw
  rw [bc_get _ _ (by omega)] at hu
  rw [← hu]
  unfold bytesOf
  rw [List.getElem_map, List.getElem_take]
  have hg : zs.getD j 0 = zs[j]'(by omega) := by rw [List.getD, List.getElem?_eq_getElem (by omega)]; rfl
  rw [hg] at hw2 ⊢
  congr 2
  rw [UInt8.toNat_ofNat']
  omega

theorem open_bytess {t e q : TypeId} (ht : P.underlying t = some (.slice e)) (he : P.underlying e = some (.slice q)) (hq : P.underlying q = some (.int .u8)) (ce : P.cellsOf e = 1) (cq : P.cellsOf q = 1) {r : Reach} {b0 : Nat} {W : World} {v : Value} {d : DataW H} {ps : List MemPlace}
    (hval : Value.okWide P W r b0 t v) (h : DataW.Trod enc P W 0 (fun _ => true) true t v d ps) :
    ∃ (A : Option Addr) (ls : List (List UInt8)) (c : Nat), v = .slice A ls.length c ∧ RdL W (fun k => k < W.heap.size) A ls ∧ ls.length ≤ c ∧ c ≤ maxLen ∧ ∀ l ∈ ls, l.length ≤ maxLen := by
  obtain ⟨a0, len, cap, rfl⟩ := okWide_slice ht hval
  obtain ⟨fuel, hf⟩ := h
  rcases Go.Deep.open_int_rows ht he hq ce cq hf with ⟨hcs, _⟩ | ⟨a, len', cap', A, L, C, Z, hcs, _, hl, hm, _, hx⟩
  · simp [Value.cells] at hcs
    obtain ⟨rfl, rfl, rfl⟩ := hcs
    exact ⟨none, [], 0, rfl, RdL.nil _ _ _, Nat.le_refl _, Nat.zero_le _, fun l h => by cases h⟩
  · simp [Value.cells] at hcs
    obtain ⟨rfl, rfl, rfl⟩ := hcs
    have hlen : ((List.range len).map fun r => bytesOf (L r) (Z r)).length = len := by simp
    have hb : ∀ r, r < len → (bytesOf (L r) (Z r)).length = L r := fun r hr => by
      obtain ⟨_, h1, _, h2, _⟩ := hx r (by omega)
      exact bytesOf_length (by omega)
    refine ⟨some a, (List.range len).map fun r => bytesOf (L r) (Z r), cap, by rw [hlen], ⟨(List.range len).map fun r => .slice (A r) (L r) (C r), by simp, fun j u hu => ?_, fun i l hl' => ?_⟩, by rw [hlen]; exact hl, hm, fun l hl' => ?_⟩
    · have hj := (List.getElem?_eq_some_iff.1 hu).1
      simp only [List.length_map, List.length_range] at hj
      obtain ⟨hc, _⟩ := hx j (by omega)
      have hlt := World.block_lt_of_cell? W _ hc
      rw [blk_add] at hlt
      rw [List.getElem?_map, List.getElem?_range hj] at hu
      simp only [Option.map_some, Option.some.injEq] at hu
      exact ⟨a, rfl, hlt, by rw [hc, hu]⟩
    · have hi := (List.getElem?_eq_some_iff.1 hl').1
      simp only [List.length_map, List.length_range] at hi
      rw [List.getElem?_map, List.getElem?_range hi] at hl'
      simp only [Option.map_some, Option.some.injEq] at hl'
      subst hl'
      obtain ⟨_, h1, _, h2, hw, hn, hsome⟩ := hx i (by omega)
      refine ⟨A i, C i, by rw [List.getElem?_map, List.getElem?_range hi, hb i hi]; rfl, ?_, by rw [hb i hi]; exact h1⟩
      cases hA : A i with
      | none =>
        have h0 : C i = 0 := hn hA
        have : bytesOf (L i) (Z i) = [] := List.eq_nil_of_length_eq_zero (by rw [hb i hi]; omega)
        rw [this]
        exact Rd.nil _ _ _
      | some a' => exact rd_of_ints (by omega) (fun c hc => (hsome a' hA).2 c (by omega)) hw
    · obtain ⟨r, hr, rfl⟩ := List.mem_map.1 hl'
      have hr' := List.mem_range.1 hr
      obtain ⟨_, h1, h2, _⟩ := hx r (by omega)
      rw [hb r hr']
      exact Nat.le_trans h1 h2

theorem open_u64s {t e : TypeId} (ht : P.underlying t = some (.slice e)) (he : P.underlying e = some (.int .u64)) (hc : P.cellsOf e = 1) {r : Reach} {b0 : Nat} {W : World} {v : Value} {d : DataW H} {ps : List MemPlace}
    (hval : Value.okWide P W r b0 t v) (h : DataW.Trod enc P W 0 (fun _ => true) true t v d ps) :
    ∃ (A : Option Addr) (xs : List Nat) (c : Nat), v = .slice A xs.length c ∧ Rd W (fun k => k < W.heap.size) A (xs.map fun (n : Nat) => .int .u64 (n : Int)) ∧ (∀ x ∈ xs, x < 18446744073709551616) ∧ xs.length ≤ c ∧ c ≤ maxLen := by
  obtain ⟨a0, len, cap, rfl⟩ := okWide_slice ht hval
  obtain ⟨fuel, hf⟩ := h
  rcases open_ints ht he hc hf with ⟨hcs, _⟩ | ⟨a, len', cap', zs, hcs, _, hl, hm, hz, _, hcell, hwf⟩
  · simp [Value.cells] at hcs
    obtain ⟨rfl, rfl, rfl⟩ := hcs
    exact ⟨none, [], 0, rfl, Rd.nil _ _ _, (fun x h => by cases h), Nat.le_refl _, Nat.zero_le _⟩
  · simp [Value.cells] at hcs
    obtain ⟨rfl, rfl, rfl⟩ := hcs
    simp only [if_true] at hz
    have hlen : ((zs.take len).map fun n => n.toNat).length = len := by simp; omega
    have hw0 : ∀ n ∈ zs, 0 ≤ n ∧ n < 18446744073709551616 := fun n hn => by
      have hw := hwf n hn
      simp [Lit.wf, IntKind.min, IntKind.max, IntKind.signed, IntKind.bits] at hw
      omega
    refine ⟨some a, (zs.take len).map fun n => n.toNat, cap, by rw [hlen], fun j u hu => ?_, fun x hx => ?_, by rw [hlen]; exact hl, hm⟩
    · have hj := (List.getElem?_eq_some_iff.1 hu).1
      rw [List.length_map, hlen] at hj
      have hc1 := hcell j (by omega)
      have hlt := World.block_lt_of_cell? W _ hc1
      rw [blk_add] at hlt
      refine ⟨a, rfl, hlt, ?_⟩
      have hg : zs.getD j 0 = zs[j]'(by omega) := by rw [List.getD, List.getElem?_eq_getElem (by omega)]; rfl
      have hm0 := hw0 _ (List.getElem_mem (show j < zs.length by omega))
      rw [List.getElem?_eq_getElem (by rw [List.length_map, hlen]; exact hj)] at hu
      simp only [List.getElem_map, List.getElem_take, Option.some.injEq] at hu
      rw [hc1, hg, ← hu, Int.toNat_of_nonneg hm0.1]
    · obtain ⟨n, hn, rfl⟩ := List.mem_map.1 hx
      have := hw0 n (List.mem_of_mem_take hn)
      omega
end
end Go.Proofs.YtbhaekdfpfncnaaDoor
