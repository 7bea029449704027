/- drawbridgeref09.head and Check. -/
import Derived.Test.YtbhaekdfpfncnaaDoorPkEq
import Derived.Test.YtbhaekdfpfncnaaDoorRegionG
namespace Go.Proofs.YtbhaekdfpfncnaaDoor
set_option linter.unusedVariables false
set_option linter.unusedSimpArgs false
open Go.RowKit

section
/-- Stores into one block, one behind the other: after s of them the block holds the s-th row. -/
def chJ (is : List Nat) (g : Nat) (t : TypeId) (Cs : List (Array Value)) (dn : Nat → Bool) (w : World) (_ : Unit) : Prop :=
  ∃ (s : Nat) (C : Array Value), (∀ (k i : Nat), is[k]? = some i → dn i = decide (k < s)) ∧ Cs[s]? = some C ∧ Blk w g t C
def frT (g : Nat) (w : World) (_ : Unit) (w' : World) (_ : Unit) : Prop := Fr (fun b => b = g) w w'
theorem frT_refl (g : Nat) (w : World) (γ : Unit) : frT g w γ w γ := Fr.refl _ _
theorem frT_trans (g : Nat) (a : World) (α : Unit) (b : World) (β : Unit) (c : World) (δ : Unit) (h : frT g a α b β) (k : frT g b β c δ) : frT g a α c δ := Fr.trans h k
theorem frT_fr {g : Nat} {w W : World} {γ γ' : Unit} (h : frT g w.drew γ W γ') : Fr (fun b => b = g) w W := ⟨h.os, h.tape, h.output, h.size, h.block⟩
variable {is : List Nat} {g : Nat} {t : TypeId} {Cs : List (Array Value)} {dn : Nat → Bool} {w : World}
theorem chJ_start (C : Array Value) (h : Blk w g t C) (hC : Cs[0]? = some C) : chJ is g t Cs (fun _ => false) w () := ⟨0, C, fun k i _ => by simp, hC, h⟩
theorem chJ_ne {i : Nat} (hi : i ∉ is) (h : chJ is g t Cs dn w ()) : chJ is g t Cs (did dn i) w () := by
  obtain ⟨s, C, h1, h2, h3⟩ := h
  refine ⟨s, C, fun k j hj => ?_, h2, h3⟩
  have hne : j ≠ i := fun e => hi (by subst e; exact List.mem_of_getElem? hj)
  have e2 : did dn i j = dn j := if_neg hne
  rw [e2]
  exact h1 k j hj
theorem chJ_step (hn : is.Nodup) (k i : Nat) (hk : is[k]? = some i) (hp : k = 0 ∨ ∃ j, is[k - 1]? = some j ∧ dn j = true) (hd : dn i = false) (h : chJ is g t Cs dn w ()) :
    ∃ C, Cs[k]? = some C ∧ Blk w g t C ∧ ∀ w' C', Cs[k + 1]? = some C' → Blk w' g t C' → chJ is g t Cs (did dn i) w' () := by
  obtain ⟨s, C, h1, h2, h3⟩ := h
  have hs : s ≤ k := by have := h1 k i hk; rw [hd] at this; simpa using this.symm
  have hs2 : k ≤ s := by
    rcases hp with h0 | ⟨j, hj, hdj⟩
    · omega
    · have := h1 (k - 1) j hj
      rw [hdj] at this
      have := of_decide_eq_true this.symm
      omega
  obtain rfl : s = k := by omega
  refine ⟨C, h2, h3, fun w' C' hC' hb => ⟨s + 1, C', fun m j hj => ?_, hC', hb⟩⟩
  by_cases e : j = i
  · subst e
    have hm := (List.getElem?_inj (List.getElem?_eq_some_iff.1 hj).1 hn).1 (hj.trans hk.symm)
    subst hm
    have e3 : did dn j j = true := if_pos rfl
    rw [e3]
    simp
  · have e3 : did dn i j = dn j := if_neg e
    rw [e3, h1 m j hj]
    have hne : m ≠ s := fun e2 => e (by subst e2; exact Option.some.inj (hj.symm.trans hk))
    rw [decide_eq_decide]
    omega
theorem chJ_end (h : chJ is g t Cs dn w ()) (hd : ∀ i ∈ is, dn i = true) (C : Array Value) (hC : Cs[is.length]? = some C) (hl : Cs.length = is.length + 1) : Blk w g t C := by
  obtain ⟨s, C1, h1, h2, h3⟩ := h
  have hs : s = is.length := by
    have hlt := (List.getElem?_eq_some_iff.1 h2).1
    rcases Nat.lt_or_ge s is.length with h4 | h4
    · have := h1 s is[s] (List.getElem?_eq_getElem h4)
      rw [hd _ (List.getElem_mem _)] at this
      simp at this
    · omega
  subst hs
  rw [hC] at h2
  cases h2
  exact h3
end
theorem none_in {G : Type} {ops : Array Oper} {pr : Nat → Value → World → G → Prop} (L : List Nat) (h : (ops.toList.zipIdx.all fun p => p.1.dst.isSome || L.contains p.2) = true) (hp : ∀ k ∈ L, ∀ v w γ, pr k v w γ → pr k undef w γ) : ∀ (i : Nat) (o : Oper), ops[i]? = some o → o.dst = none → ∀ v w γ, pr i v w γ → pr i undef w γ := by
  intro i o ho hn
  have := List.all_eq_true.1 h (o, i) (by rw [List.mem_zipIdx_iff_getElem?]; simpa using ho)
  simp [hn] at this
  exact hp i this
theorem blkC {w : World} {g : Nat} {t : TypeId} {cs : Array Value} (h : Blk w g t cs) : ∀ (j : Nat) (v : Value), cs.toList[j]? = some v → w.cell? ((⟨g, 0, none⟩ : Addr).add j) = some v := fun j v hv => by
  rw [Addr.add_lit, Nat.zero_add, h.cell]
  simpa using hv
def kPK (k : Int) : PK := ⟨k, 0, 0, 0, 0, Z16, Z16, [], none, 0⟩
theorem kPK_ok {k : Int} (h : -9223372036854775808 ≤ k ∧ k ≤ 9223372036854775807) : (kPK k).ok := ⟨h, by show -9223372036854775808 ≤ (0 : Int) ∧ (0 : Int) ≤ _; omega, (by show (0 : Nat) < 18446744073709551616; decide), (by show (0 : Nat) < 4294967296; decide), (by show (0 : Nat) < 18446744073709551616; decide), rfl, rfl, (by show (0 : Nat) ≤ 0; decide), (by show (0 : Nat) ≤ 9223372036854775807; decide)⟩
theorem built_k (k : Int) : Program.built Tryd.prog 27 [(0, .int .i64 k)] = some (kPK k).X := by kernel_rfl
theorem PK.set1 (p : PK) (n : Int) : p.X.setIfInBounds 1 (.int .i64 n) = ({ p with peer := n } : PK).X := by
  simp [PK.X, PK.L]
theorem PK.set2 (p : PK) (n : Nat) : p.X.setIfInBounds 2 (.int .u64 (n : Int)) = ({ p with ses := n } : PK).X := by
  simp [PK.X, PK.L]
theorem PK.set3 (p : PK) (n : Nat) : p.X.setIfInBounds 3 (.int .u32 (n : Int)) = ({ p with ep := n } : PK).X := by
  simp [PK.X, PK.L]
theorem PK.set4 (p : PK) (n : Nat) : p.X.setIfInBounds 4 (.int .u64 (n : Int)) = ({ p with cnt := n } : PK).X := by
  simp [PK.X, PK.L]
theorem mid_rnd {p : PK} (h : p.ok) (m : List UInt8) (hm : m.length = 16) : midC p.X 5 (bc m) = ({ p with rnd := m } : PK).X := by
  have hr := h.rnd
  unfold midC PK.X PK.L
  congr 1
  rw [bc_length, hm]
  have e1 : ([.int .i64 p.kind, .int .i64 p.peer, .int .u64 (p.ses : Int), .int .u32 (p.ep : Int), .int .u64 (p.cnt : Int)] : List Value).length = 5 := rfl
  show List.take 5 ([.int .i64 p.kind, .int .i64 p.peer, .int .u64 (p.ses : Int), .int .u32 (p.ep : Int), .int .u64 (p.cnt : Int)] ++ (bc p.rnd ++ (bc p.mrk ++ [.slice p.A p.bl.length p.c]))) ++ bc m ++ List.drop (5 + 16) ([.int .i64 p.kind, .int .i64 p.peer, .int .u64 (p.ses : Int), .int .u32 (p.ep : Int), .int .u64 (p.cnt : Int)] ++ (bc p.rnd ++ (bc p.mrk ++ [.slice p.A p.bl.length p.c]))) = _
  rw [List.take_left' e1, show (5 + 16 : Nat) = 5 + (bc p.rnd).length from by rw [bc_length, hr], ← e1, List.drop_length_add_append, List.drop_left]
  simp

end Go.Proofs.YtbhaekdfpfncnaaDoor
