/- Packets built and changed in place; results of two and three parts. -/
import Derived.Test.YtbhaekdfpfncnaaDoorShD
import Derived.Laws.CopyRow
namespace Go.Proofs.YtbhaekdfpfncnaaDoor
set_option linter.unusedVariables false
set_option linter.unusedSimpArgs false
open Go.RowKit

section
variable {P : Program}
theorem run_results2 {fn : Func} {p u : Tmp} {ty : TypeId} (h : fn.results = #[.cell p ty, .tmp u]) (tmps : Array Value) (w : World) (g : Nat) (t : TypeId) (cs : Array Value) (d : TypeDesc)
    (hp : tmps.getD p undef = .pointer (some ⟨g, 0, none⟩)) (hg : Blk w g t cs) (hu : P.underlying ty = some d) (hd : (match d with | .struct _ | .array _ _ => true | _ => false) = true) (hi : (P.info? ty).map (·.size) = some cs.size) :
    (results fn tmps).run P w = .ok (.tuple #[.agg cs, tmps.getD u undef]) w := by
  have hp' : tmps[p]?.getD undef = .pointer (some ⟨g, 0, none⟩) := by simpa using hp
  simp [results, h, hp', asAddr, Sem.run_bind, run_loadVar_row w g t ty cs (0, 0) d hg hu hd hi]
theorem run_results3 {fn : Func} {p q u : Tmp} {ty ty2 : TypeId} (h : fn.results = #[.cell p ty, .cell q ty2, .tmp u]) (tmps : Array Value) (w : World) (g : Nat) (t : TypeId) (cs : Array Value) (d : TypeDesc)
    (hp : tmps.getD p undef = .pointer (some ⟨g, 0, none⟩)) (hg : Blk w g t cs) (hu : P.underlying ty = some d) (hd : (match d with | .struct _ | .array _ _ => true | _ => false) = true) (hi : (P.info? ty).map (·.size) = some cs.size)
    (g2 : Nat) (t2 : TypeId) (cs2 : Array Value) (d2 : TypeDesc) (hp2 : tmps.getD q undef = .pointer (some ⟨g2, 0, none⟩)) (hg2 : Blk w g2 t2 cs2) (hu2 : P.underlying ty2 = some d2) (hd2 : (match d2 with | .struct _ | .array _ _ => true | _ => false) = true) (hi2 : (P.info? ty2).map (·.size) = some cs2.size) :
    (results fn tmps).run P w = .ok (.tuple #[.agg cs, .agg cs2, tmps.getD u undef]) w := by
  have hp' : tmps[p]?.getD undef = .pointer (some ⟨g, 0, none⟩) := by simpa using hp
  have hp2' : tmps[q]?.getD undef = .pointer (some ⟨g2, 0, none⟩) := by simpa using hp2
  simp [results, h, hp', hp2', asAddr, Sem.run_bind, run_loadVar_row w g t ty cs (0, 0) d hg hu hd hi, run_loadVar_row w g2 t2 ty2 cs2 (0, 0) d2 hg2 hu2 hd2 hi2]
/-- Cells in the middle of a row. -/
def midC (cur : Array Value) (o : Nat) (vs : List Value) : Array Value := (cur.toList.take o ++ vs ++ cur.toList.drop (o + vs.length)).toArray
theorem run_storeVar_at (w : World) (g o : Nat) (ty t : TypeId) (cur : Array Value) (vs : List Value) (hg : Blk w g t cur) (hl : o + vs.length ≤ cur.size) (h1 : ∀ v ∈ vs, v.oneCell' = true) (hi : (P.info? ty).map (·.size) = some vs.length) :
    (storeVar ty ⟨g, o, none⟩ (.agg vs.toArray)).run P w = .ok () (w.setRow g (midC cur o vs)) := by
  have := run_storeCells_at P g o t vs 0 cur w hg (by omega) h1
  cases hq : P.info? ty with
  | none => simp [hq] at hi
  | some i =>
    have hs : vs.length = i.size := by simp [hq] at hi; omega
    simp [storeVar, sizeOf, typeInfo, hq, Value.cells, hs, this]
    unfold midC
    rw [hs, List.append_assoc]
theorem wp_store_at {o : Oper} {a : Act} {w : World} {K : Act → World → Prop} {Q : Exit → Act → World → Prop} (ty : TypeId) (x y : Operand) (ho : o.op = .store ty x y)
    (g off : Nat) (vs : List Value) (hx : a.eval x = .pointer (some ⟨g, off, none⟩)) (hy : a.eval y = .agg vs.toArray) (t : TypeId) (cur : Array Value) (hg : Blk w g t cur) (hl : off + vs.length ≤ cur.size) (h1 : ∀ v ∈ vs, v.oneCell' = true) (hi : (P.info? ty).map (·.size) = some vs.length)
    (h : K (a.put o.dst undef) (w.setRow g (midC cur off vs))) : o.wp P a w K Q := by
  unfold Oper.wp execOp
  simp only [ho, hx, hy, Instr.storeAt, Instr.sureAddr, Sem.run_bind, Sem.run_pure, Result.andThen_ok, run_storeVar_at w g off ty t cur vs hg hl h1 hi]
  exact h
theorem wpList_store_at {ops : Array Oper} {rest : List Oper} {o : Oper} {a : Act} {w : World} {Q : Exit → Act → World → Prop} (hgd : o.guard = none) (ty : TypeId) (x y : Operand) (ho : o.op = .store ty x y)
    (g off : Nat) (vs : List Value) (hx : a.eval x = .pointer (some ⟨g, off, none⟩)) (hy : a.eval y = .agg vs.toArray) (t : TypeId) (cur : Array Value) (hg : Blk w g t cur) (hl : off + vs.length ≤ cur.size) (h1 : ∀ v ∈ vs, v.oneCell' = true) (hi : (P.info? ty).map (·.size) = some vs.length)
    (h : wpList P ops Q rest (a.put o.dst undef) (w.setRow g (midC cur off vs))) : wpList P ops Q (o :: rest) a w :=
  wpList_plain hgd fun _ hK => wp_store_at ty x y ho g off vs hx hy t cur hg hl h1 hi (hK _ _ h)
theorem wpList_build_to {ops : Array Oper} {rest : List Oper} {o : Oper} {a : Act} {w : World} {Q : Exit → Act → World → Prop} (hg : o.guard = none) (t : TypeId) (parts : List (Nat × Operand)) (ho : o.op = .build t parts.toArray) (cells : Array Value)
    (hf : P.built t (parts.map fun (i, x) => (i, a.eval x)) = some cells) (h : wpList P ops Q rest (a.put o.dst (.agg cells)) w) : wpList P ops Q (o :: rest) a w := by
  have e : (parts.toArray.map fun (i, x) => (i, a.eval x)).toList = parts.map fun (i, x) => (i, a.eval x) := by simp
  exact wpList_build hg t parts.toArray ho (by rw [e, hf]; rfl) (by rw [e, hf]; exact h)
end

theorem list16 (l : List UInt8) (h : l.length = 16) : ∃ a0 a1 a2 a3 a4 a5 a6 a7 a8 a9 a10 a11 a12 a13 a14 a15, l = [a0, a1, a2, a3, a4, a5, a6, a7, a8, a9, a10, a11, a12, a13, a14, a15] := by
  match l, h with
  | [a0, a1, a2, a3, a4, a5, a6, a7, a8, a9, a10, a11, a12, a13, a14, a15], _ => exact ⟨_, _, _, _, _, _, _, _, _, _, _, _, _, _, _, _, rfl⟩
def Z16 : List UInt8 := List.replicate 16 0
/-- The packet of zeros, a hello without its mark, an answer without its mark. -/
def zPK : PK := ⟨0, 0, 0, 0, 0, Z16, Z16, [], none, 0⟩
def hPK (n : Int) (rnd m : List UInt8) : PK := ⟨1, n, 0, 0, 0, rnd, m, [], none, 0⟩
def aPK (ses ep : Nat) (rnd m : List UInt8) : PK := ⟨2, 0, ses, ep, 0, rnd, m, [], none, 0⟩
theorem zPK_ok : zPK.ok := ⟨by decide, by decide, by decide, by decide, by decide, rfl, rfl, by decide, by decide⟩
theorem hPK_ok {n : Int} {rnd m : List UInt8} (hn : -9223372036854775808 ≤ n ∧ n ≤ 9223372036854775807) (hr : rnd.length = 16) (hm : m.length = 16) : (hPK n rnd m).ok := ⟨by show -9223372036854775808 ≤ (1 : Int) ∧ (1 : Int) ≤ _; omega, hn, (by show (0 : Nat) < 18446744073709551616; decide), (by show (0 : Nat) < 4294967296; decide), (by show (0 : Nat) < 18446744073709551616; decide), hr, hm, (by show (0 : Nat) ≤ 0; decide), (by show (0 : Nat) ≤ 9223372036854775807; decide)⟩
theorem aPK_ok {ses ep : Nat} {rnd m : List UInt8} (hs : ses < 18446744073709551616) (he : ep < 4294967296) (hr : rnd.length = 16) (hm : m.length = 16) : (aPK ses ep rnd m).ok := ⟨by show -9223372036854775808 ≤ (2 : Int) ∧ (2 : Int) ≤ _; omega, by show -9223372036854775808 ≤ (0 : Int) ∧ (0 : Int) ≤ _; omega, hs, he, (by show (0 : Nat) < 18446744073709551616; decide), hr, hm, (by show (0 : Nat) ≤ 0; decide), (by show (0 : Nat) ≤ 9223372036854775807; decide)⟩
theorem built_z : Program.built Tryd.prog 27 [] = some zPK.X := by kernel_rfl
theorem built_h (n : Int) (rnd : List UInt8) (h : rnd.length = 16) : Program.built Tryd.prog 27 [(0, .int .i64 1), (1, .int .i64 n), (5, .agg (bc rnd).toArray)] = some (hPK n rnd Z16).X := by
  obtain ⟨a0, a1, a2, a3, a4, a5, a6, a7, a8, a9, a10, a11, a12, a13, a14, a15, rfl⟩ := list16 rnd h
  kernel_rfl
theorem built_a (ses ep : Nat) (rnd : List UInt8) (h : rnd.length = 16) : Program.built Tryd.prog 27 [(0, .int .i64 2), (2, .int .u64 (ses : Int)), (3, .int .u32 (ep : Int)), (5, .agg (bc rnd).toArray)] = some (aPK ses ep rnd Z16).X := by
  obtain ⟨a0, a1, a2, a3, a4, a5, a6, a7, a8, a9, a10, a11, a12, a13, a14, a15, rfl⟩ := list16 rnd h
  kernel_rfl
theorem mid_mark {p : PK} (h : p.ok) (m : List UInt8) (hm : m.length = 16) : midC p.X 21 (bc m) = ({ p with mrk := m } : PK).X := by
  have hr := h.rnd
  have hk := h.mrk
  unfold midC PK.X PK.L
  congr 1
  rw [bc_length, hm]
  have e1 : ([.int .i64 p.kind, .int .i64 p.peer, .int .u64 (p.ses : Int), .int .u32 (p.ep : Int), .int .u64 (p.cnt : Int)] ++ bc p.rnd : List Value).length = 21 := by simp [hr]
  rw [show (([.int .i64 p.kind, .int .i64 p.peer, .int .u64 (p.ses : Int), .int .u32 (p.ep : Int), .int .u64 (p.cnt : Int)] ++ (bc p.rnd ++ (bc p.mrk ++ [.slice p.A p.bl.length p.c])) : List Value).toArray.toList) = ([.int .i64 p.kind, .int .i64 p.peer, .int .u64 (p.ses : Int), .int .u32 (p.ep : Int), .int .u64 (p.cnt : Int)] ++ bc p.rnd) ++ (bc p.mrk ++ [.slice p.A p.bl.length p.c]) from by simp]
  rw [List.take_left' e1, show (21 + 16 : Nat) = 21 + (bc p.mrk).length from by rw [bc_length, hk], ← e1, List.drop_length_add_append, List.drop_left]
  simp
theorem zero_cells_pk : (bc (List.replicate 32 0)).toArray.size = 32 := rfl
end Go.Proofs.YtbhaekdfpfncnaaDoor
