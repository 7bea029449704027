/- == between two arrays of bytes. No program. -/
import Derived.Test.YtbhaekdfpfncnaaDoorMac
import Derived.Laws.StructEq
namespace Go.Proofs.YtbhaekdfpfncnaaDoor
set_option linter.unusedVariables false
set_option linter.unusedSimpArgs false
open Go.RowKit

section
variable {P : Program}
section
variable {ops : Array Oper} {rest : List Oper} {o : Oper} {a : Act} {Q : Exit → Act → World → Prop}
/-- The same where the operation bears a guard that is met. -/
theorem wpList_load_rd_if {w : World} (hw : Region.wanted o (yielded ops a.tmps) = true) (ty : TypeId) (x : Operand) (ho : o.op = .load ty x) (ad : Addr) (hx : a.eval x = .pointer (some ad)) (xs : List Value) (d : TypeDesc)
    (hc : ∀ j v, xs[j]? = some v → w.cell? (ad.add j) = some v) (hu : P.underlying ty = some d) (hd : (match d with | .struct _ | .array _ _ => true | _ => false) = true) (hi : (P.info? ty).map (·.size) = some xs.length)
    (h : wpList P ops Q rest (a.put o.dst (.agg xs.toArray)) w) : wpList P ops Q (o :: rest) a w := by
  rw [wpList, if_pos hw]
  left
  unfold Oper.wp execOp
  simp only [ho, hx, Instr.loadAt, Instr.sureAddr, Sem.run_bind, Sem.run_pure, Result.andThen_ok, run_loadVar_rd w ad ty xs d hc hu hd hi]
  exact h
end
theorem run_part_u8 (w : World) (e : TypeId) (he : P.underlying e = some (.int .u8)) (l : List UInt8) (i : Nat) (h : i < l.length) : (part e (bc l).toArray i).run P w = .ok (.int .u8 (l[i].toNat : Int)) w := by
  have hagg : (isAgg e).run P w = .ok false w := by
    unfold isAgg
    rw [Sem.run_bind, run_underlying he w]
    rfl
  have hc : (bc l).toArray[i]? = some (.int .u8 (l[i].toNat : Int)) := (List.getElem?_toArray ..).trans (bc_get l i h)
  unfold part
  rw [Sem.run_bind, hagg]
  simp only [Result.andThen_ok, Bool.false_eq_true, if_false, hc]
  rfl
theorem eq_loop (w : World) (d : Nat) (e : TypeId) (he : P.underlying e = some (.int .u8)) (x y : List UInt8) (hxy : x.length = y.length) : ∀ (n i : Nat), i + n = x.length →
    (do
      let r ← forIn (List.range' i n) (none, PUnit.unit) fun i _ => do
        let a ← part e (bc x).toArray (i * 1)
        let b ← part e (bc y).toArray (i * 1)
        let c ← Op.equalIn (d + 1) e a b
        if !c then pure (ForInStep.done (some false, PUnit.unit)) else pure (ForInStep.yield (none, PUnit.unit))
      match r.fst with
      | some a => pure a
      | none => pure true : Sem Bool).run P w = .ok (decide (x.drop i = y.drop i)) w
  | 0, i, h => by
    simp only [List.range'_zero, List.forIn_nil]
    rw [List.drop_of_length_le (by omega), List.drop_of_length_le (by omega)]
    simp
  | n + 1, i, h => by
    have ih := eq_loop w d e he x y hxy n (i + 1) (by omega)
    have hx : i < x.length := by omega
    have hy : i < y.length := by omega
    rw [List.range'_succ, List.forIn_cons]
    have hD : (x.drop i = y.drop i) ↔ (x[i] = y[i] ∧ x.drop (i + 1) = y.drop (i + 1)) := by rw [List.drop_eq_getElem_cons hx, List.drop_eq_getElem_cons hy, List.cons.injEq]
    rw [show decide (x.drop i = y.drop i) = decide (x[i] = y[i] ∧ x.drop (i + 1) = y.drop (i + 1)) from decide_eq_decide.2 hD]
    simp only [Nat.mul_one] at ih ⊢
    rw [Sem.run_bind, Sem.run_bind, Sem.run_bind, run_part_u8 w e he x i hx]
    simp only [Result.andThen_ok]
    rw [Sem.run_bind, run_part_u8 w e he y i hy]
    simp only [Result.andThen_ok]
    rw [Sem.run_bind, run_equalIn_int w d e .u8 .u8 _ _ he]
    simp only [Result.andThen_ok]
    by_cases hc : x[i] = y[i]
    · have hb : ((x[i].toNat : Int) == (y[i].toNat : Int)) = true := by rw [hc]; simp
      rw [hb]
      simp only [Bool.not_true, Bool.false_eq_true, if_false, Sem.run_pure, Result.andThen_ok]
      rw [Sem.run_bind] at ih
      rw [ih]
      simp [hc]
    · have hb : ((x[i].toNat : Int) == (y[i].toNat : Int)) = false := by
        rw [beq_eq_false_iff_ne]
        intro h2
        exact hc (UInt8.toNat_inj.1 (by omega))
      rw [hb]
      simp [hc]
theorem run_equalIn_bytes (w : World) (d : Nat) (t e : TypeId) (len : Nat) (ht : P.underlying t = some (.array len e)) (he : P.underlying e = some (.int .u8)) (hs : (P.info? e).map (·.size) = some 1)
    (x y : List UInt8) (hx : x.length = len) (hy : y.length = len) : (Op.equalIn (d + 2) t (.agg (bc x).toArray) (.agg (bc y).toArray)).run P w = .ok (decide (x = y)) w := by
  have hsz : ∀ w, (sizeOf e).run P w = .ok 1 w := fun w => by
    cases hq : P.info? e with
    | none => simp [hq] at hs
    | some i =>
      have : i.size = 1 := by simpa [hq] using hs
      simp [sizeOf, typeInfo, hq, this]
  have h := eq_loop (P := P) w d e he x y (by omega) len 0 (by omega)
  unfold Op.equalIn
  rw [Sem.run_bind, run_underlying ht]
  simp only [Result.andThen_ok]
  rw [Sem.run_bind, hsz]
  simp only [Result.andThen_ok]
  rw [Std.Legacy.Range.forIn_eq_forIn_range']
  simp only [Std.Legacy.Range.size, Nat.sub_zero, Nat.add_sub_cancel, Nat.div_one]
  rw [Sem.run_bind] at h ⊢
  rw [show decide (x = y) = decide (x.drop 0 = y.drop 0) from by simp, ← h]
  congr 1
  funext v w'
  cases v.fst <;> rfl
end
end Go.Proofs.YtbhaekdfpfncnaaDoor
