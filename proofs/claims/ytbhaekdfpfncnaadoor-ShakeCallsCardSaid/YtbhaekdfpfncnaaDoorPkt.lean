/- Packets as they lie, and the twelve tests of packet.of's parts. -/
import Derived.Test.YtbhaekdfpfncnaaDoorEq
import Derived.Test.YtbhaekdfpfncnaaDoorChecked
import Derived.BigQuiet
import Derived.Deep.QuietTactic
namespace Go.Proofs.YtbhaekdfpfncnaaDoor
set_option linter.unusedVariables false
set_option linter.unusedSimpArgs false
open Go.RowKit

/-- A packet: its numbers, its arrays' bytes, its body's bytes and where these lie. -/
structure PK where
  kind : Int
  peer : Int
  ses : Nat
  ep : Nat
  cnt : Nat
  rnd : List UInt8
  mrk : List UInt8
  bl : List UInt8
  A : Option Addr
  c : Nat
def PK.L (p : PK) : List Value := [.int .i64 p.kind, .int .i64 p.peer, .int .u64 (p.ses : Int), .int .u32 (p.ep : Int), .int .u64 (p.cnt : Int)] ++ (bc p.rnd ++ (bc p.mrk ++ [.slice p.A p.bl.length p.c]))
def PK.X (p : PK) : Array Value := p.L.toArray
structure PK.ok (p : PK) : Prop where
  kind : -9223372036854775808 ≤ p.kind ∧ p.kind ≤ 9223372036854775807
  peer : -9223372036854775808 ≤ p.peer ∧ p.peer ≤ 9223372036854775807
  ses : p.ses < 18446744073709551616
  ep : p.ep < 4294967296
  cnt : p.cnt < 18446744073709551616
  rnd : p.rnd.length = 16
  mrk : p.mrk.length = 16
  bl : p.bl.length ≤ p.c
  cap : p.c ≤ 9223372036854775807
theorem PK.size {p : PK} (h : p.ok) : p.X.size = 38 := by simp [PK.X, PK.L, h.rnd, h.mrk]
theorem PK.x0 (p : PK) : p.X[0]? = some (.int .i64 p.kind) := by simp [PK.X, PK.L]
theorem PK.x1 (p : PK) : p.X[1]? = some (.int .i64 p.peer) := by simp [PK.X, PK.L]
theorem PK.x2 (p : PK) : p.X[2]? = some (.int .u64 (p.ses : Int)) := by simp [PK.X, PK.L]
theorem PK.x3 (p : PK) : p.X[3]? = some (.int .u32 (p.ep : Int)) := by simp [PK.X, PK.L]
theorem PK.x4 (p : PK) : p.X[4]? = some (.int .u64 (p.cnt : Int)) := by simp [PK.X, PK.L]
theorem PK.xr {p : PK} (h : p.ok) (j : Nat) (u : Value) (hu : (bc p.rnd)[j]? = some u) : p.X[5 + j]? = some u := by
  have hj : j < p.rnd.length := by have := (List.getElem?_eq_some_iff.1 hu).1; simpa using this
  unfold PK.X PK.L
  rw [List.getElem?_toArray, List.getElem?_append_right (by simp), List.getElem?_append_left (by simp; omega)]
  simpa using hu
theorem PK.xm {p : PK} (h : p.ok) (j : Nat) (u : Value) (hu : (bc p.mrk)[j]? = some u) : p.X[21 + j]? = some u := by
  have hj : j < p.mrk.length := by have := (List.getElem?_eq_some_iff.1 hu).1; simpa using this
  have hr := h.rnd
  unfold PK.X PK.L
  rw [List.getElem?_toArray, List.getElem?_append_right (by simp; omega), List.getElem?_append_right (by simp; omega), List.getElem?_append_left (by simp; omega)]
  rw [← hu]
  congr 1
  simp
  omega
theorem PK.xb {p : PK} (h : p.ok) : p.X[37]? = some (.slice p.A p.bl.length p.c) := by
  have hr := h.rnd
  have hm := h.mrk
  unfold PK.X PK.L
  rw [List.getElem?_toArray, List.getElem?_append_right (by simp), List.getElem?_append_right (by simp; omega), List.getElem?_append_right (by simp; omega)]
  simp [hr, hm]
theorem PK.one (p : PK) : p.X.all (·.oneCell') = true := by
  rw [Array.all_eq_true']
  intro u hu
  have hu' : u ∈ p.L := by simpa [PK.X] using hu
  unfold PK.L at hu'
  simp only [List.mem_append, List.mem_cons, List.not_mem_nil, or_false] at hu'
  rcases hu' with (rfl | rfl | rfl | rfl | rfl) | h | h | rfl
  · rfl
  · rfl
  · rfl
  · rfl
  · rfl
  · exact bc_one _ u h
  · exact bc_one _ u h
  · rfl

/-- A test that returns a bool and makes new memory alone. -/
def Says (w : World) (b : Bool) (e : Ending) (w' : World) : Prop := e = .returned (.bool b) ∧ Below w.heap.size w w'

theorem below_drewN {B : Nat} {a w : World} (h : Below B a w) (n : Nat) : Below B a (w.drewN n) := ⟨h.os, h.tape, h.output, h.size, h.block⟩
theorem of1 (X : Array Value) (n : Int) (hx : X[1]? = some (.int .i64 n)) (w : World) :
    Calls Tryd.prog 45 #[.agg X] w (Says w (decide (1 ≤ n) && decide (n ≤ 65536))) := by
  by_cases h1 : 1 ≤ n
  · go_enter Tryd.func45, Tryd.ntmps45
    go_wp2
    go_ret
    exact ⟨by rw [decide_eq_true h1, Bool.true_and]; rfl, (Below.refl _ _).alloc (Nat.le_refl _) _⟩
  · go_enter Tryd.func45, Tryd.ntmps45
    go_wp2
    go_ret
    exact ⟨by first | rfl | (rw [show decide (1 ≤ n) = false from by simp; omega, Bool.false_and]; rfl), (Below.refl _ _).alloc (Nat.le_refl _) _⟩
theorem of2 (X : Array Value) (n : Int) (hx : X[1]? = some (.int .i64 n)) (w : World) :
    Calls Tryd.prog 46 #[.agg X] w (Says w (n == 0)) := by
  go_enter Tryd.func46, Tryd.ntmps46
  go_wp2
  go_ret
  exact ⟨by show Ending.returned (.bool _) = _; congr 2; first | done | rfl | (rw [Bool.eq_iff_iff]; simp <;> omega), (Below.refl _ _).alloc (Nat.le_refl _) _⟩
theorem of5 (X : Array Value) (n : Nat) (hx : X[2]? = some (.int .u64 (n : Int))) (w : World) :
    Calls Tryd.prog 51 #[.agg X] w (Says w (decide (1 ≤ n))) := by
  go_enter Tryd.func51, Tryd.ntmps51
  go_wp2
  go_ret
  exact ⟨by show Ending.returned (.bool _) = _; congr 2; first | done | rfl | (rw [Bool.eq_iff_iff]; simp <;> omega), (Below.refl _ _).alloc (Nat.le_refl _) _⟩
theorem of6 (X : Array Value) (n : Nat) (hx : X[2]? = some (.int .u64 (n : Int))) (w : World) :
    Calls Tryd.prog 52 #[.agg X] w (Says w (n == 0)) := by
  go_enter Tryd.func52, Tryd.ntmps52
  go_wp2
  go_ret
  exact ⟨by show Ending.returned (.bool _) = _; congr 2; first | done | rfl | (rw [Bool.eq_iff_iff]; simp <;> omega), (Below.refl _ _).alloc (Nat.le_refl _) _⟩
theorem of9 (X : Array Value) (n : Nat) (hx : X[3]? = some (.int .u32 (n : Int))) (w : World) :
    Calls Tryd.prog 56 #[.agg X] w (Says w (decide (1 ≤ n))) := by
  go_enter Tryd.func56, Tryd.ntmps56
  go_wp2
  go_ret
  exact ⟨by show Ending.returned (.bool _) = _; congr 2; first | done | rfl | (rw [Bool.eq_iff_iff]; simp <;> omega), (Below.refl _ _).alloc (Nat.le_refl _) _⟩
theorem of10 (X : Array Value) (n : Nat) (hx : X[3]? = some (.int .u32 (n : Int))) (w : World) :
    Calls Tryd.prog 57 #[.agg X] w (Says w (n == 0)) := by
  go_enter Tryd.func57, Tryd.ntmps57
  go_wp2
  go_ret
  exact ⟨by show Ending.returned (.bool _) = _; congr 2; first | done | rfl | (rw [Bool.eq_iff_iff]; simp <;> omega), (Below.refl _ _).alloc (Nat.le_refl _) _⟩
theorem of13 (X : Array Value) (n : Nat) (hx : X[4]? = some (.int .u64 (n : Int))) (w : World) :
    Calls Tryd.prog 60 #[.agg X] w (Says w (decide (1 ≤ n) && decide (n ≤ 1152921504606846976))) := by
  by_cases h1 : 1 ≤ n
  · have h1' : (1 : Int) ≤ (n : Int) := by omega
    go_enter Tryd.func60, Tryd.ntmps60
    go_wp2
    go_ret
    exact ⟨by rw [decide_eq_true h1, Bool.true_and]; show Ending.returned (.bool _) = _; congr 2; try (rw [Bool.eq_iff_iff]; simp <;> omega), (Below.refl _ _).alloc (Nat.le_refl _) _⟩
  · have h1' : ¬ (1 : Int) ≤ (n : Int) := by omega
    go_enter Tryd.func60, Tryd.ntmps60
    go_wp2
    go_ret
    exact ⟨by first | rfl | (rw [show decide (1 ≤ n) = false from by simp; omega, Bool.false_and]; rfl), (Below.refl _ _).alloc (Nat.le_refl _) _⟩
theorem of14 (X : Array Value) (n : Nat) (hx : X[4]? = some (.int .u64 (n : Int))) (w : World) :
    Calls Tryd.prog 61 #[.agg X] w (Says w (n == 0)) := by
  go_enter Tryd.func61, Tryd.ntmps61
  go_wp2
  go_ret
  exact ⟨by show Ending.returned (.bool _) = _; congr 2; first | done | rfl | (rw [Bool.eq_iff_iff]; simp <;> omega), (Below.refl _ _).alloc (Nat.le_refl _) _⟩
theorem of17 (X : Array Value) (w : World) : Calls Tryd.prog 64 #[.agg X] w (Says w true) := by
  go_enter Tryd.func64, Tryd.ntmps64
  go_wp2
  go_ret
  exact ⟨rfl, (Below.refl _ _).alloc (Nat.le_refl _) _⟩
theorem extra_calls (w : World) : Calls Tryd.prog 70 #[] w fun e w' => e = .returned (.int .i64 16) ∧ w = w' := by
  go_enter Tryd.func70, Tryd.ntmps70
  go_wp2
  go_ret
  exact ⟨rfl, rfl⟩
theorem of22 (X : Array Value) (A : Option Addr) (n c : Nat) (hx : X[37]? = some (.slice A n c)) (w : World) :
    Calls Tryd.prog 71 #[.agg X] w (Says w (n == 0)) := by
  go_enter Tryd.func71, Tryd.ntmps71
  go_wp2
  go_ret
  exact ⟨by show Ending.returned (.bool _) = _; congr 2; first | done | rfl | (rw [Bool.eq_iff_iff]; simp <;> omega), (Below.refl _ _).alloc (Nat.le_refl _) _⟩
theorem of21 (X : Array Value) (A : Option Addr) (n c : Nat) (hx : X[37]? = some (.slice A n c)) (hn : n ≤ 9223372036854775807) (w : World) :
    Calls Tryd.prog 69 #[.agg X] w (Says w (decide (16 ≤ n) && decide (n ≤ 65552))) := by
  by_cases h1 : 16 ≤ n
  · have h1' : (16 : Int) ≤ (n : Int) := by omega
    have h2' : decide ((16 : Int) ≤ (n : Int)) = true := by simp; omega
    go_enter Tryd.func69, Tryd.ntmps69
    go_wp2_with fail
    have hw : IntKind.i64.wrap (65536 + 16) = 65552 := by decide
    go_quiet ((go_at_call 70; exact Calls.quiet_of_same ((extra_calls _).mono fun _ _ h => ⟨h.1, h.2.symm⟩)))
    go_wp2_with fail
    go_ret
    exact ⟨by rw [decide_eq_true h1, Bool.true_and]; show Ending.returned (.bool _) = _; congr 2; try (rw [Bool.eq_iff_iff]; simp <;> omega), below_drewN ((Below.refl _ _).alloc (Nat.le_refl _) _) _⟩
  · have h1' : ¬ (16 : Int) ≤ (n : Int) := by omega
    have h2' : decide ((16 : Int) ≤ (n : Int)) = false := by simp; omega
    go_enter Tryd.func69, Tryd.ntmps69
    go_wp2_with fail
    go_quiet ((go_at_call 70; exact Calls.quiet_of_same ((extra_calls _).mono fun _ _ h => ⟨h.1, h.2.symm⟩)))
    go_wp2_with fail
    go_ret
    exact ⟨by rw [show decide (16 ≤ n) = false from by simp; omega, Bool.false_and]; rfl, below_drewN ((Below.refl _ _).alloc (Nat.le_refl _) _) _⟩
theorem eq16 (w : World) (x y : List UInt8) (hx : x.length = 16) (hy : y.length = 16) : (Op.equalIn 10000 24 (.agg (bc x).toArray) (.agg (bc y).toArray)).run Tryd.prog w = .ok (decide (x = y)) w :=
  run_equalIn_bytes w 9998 24 5 16 Tryd.underlying24 Tryd.underlying5 (by kernel_rfl) x y hx hy
theorem eq16z (w : World) (x : List UInt8) (hx : x.length = 16) : (Op.equalIn 10000 24 (.agg (bc x).toArray) (.agg #[.int .u8 0, .int .u8 0, .int .u8 0, .int .u8 0, .int .u8 0, .int .u8 0, .int .u8 0, .int .u8 0, .int .u8 0, .int .u8 0, .int .u8 0, .int .u8 0, .int .u8 0, .int .u8 0, .int .u8 0, .int .u8 0])).run Tryd.prog w = .ok (decide (x = List.replicate 16 0)) w := by
  have h := eq16 w x (List.replicate 16 0) hx (by simp)
  exact h
set_option maxHeartbeats 1000000 in
theorem of18 (p : PK) (hp : p.ok) (w : World) :
    Calls Tryd.prog 65 #[.agg p.X] w (Says w (decide (p.rnd = List.replicate 16 0) && decide (p.mrk = List.replicate 16 0))) := by
  have hxr := PK.xr hp
  have hxm := PK.xm hp
  have hrl := hp.rnd
  have hml := hp.mrk
  generalize p.X = X at *
  generalize p.rnd = r at *
  generalize p.mrk = m at *
  have HR := fun _ : Unit => hrl
  have HM := fun _ : Unit => hml
  have e1 := fun w : World => eq16z w r hrl
  have e2 := fun w : World => eq16z w m hml
  have h1 : ∀ (j : Nat) (v : Value), (bc r)[j]? = some v → (w.alloc (.cells X 27)).cell? ((⟨w.heap.size, 5, none⟩ : Addr).add j) = some v := fun j v h => by
    rw [Addr.add_lit, Blk.cell (Blk.new w _ X)]
    exact hxr j v h
  have h2 : ∀ (j : Nat) (v : Value), (bc m)[j]? = some v → (w.alloc (.cells X 27)).cell? ((⟨w.heap.size, 21, none⟩ : Addr).add j) = some v := fun j v h => by
    rw [Addr.add_lit, Blk.cell (Blk.new w _ X)]
    exact hxm j v h
  have H1 := fun _ : Unit => h1
  have H2 := fun _ : Unit => h2
  clear hxr hxm hrl hml h1 h2 hp
  generalize decide (r = List.replicate 16 0) = b1 at *
  generalize decide (m = List.replicate 16 0) = b2 at *
  cases b1
  all_goals
    go_enter Tryd.func65, Tryd.ntmps65
    go_wp2_with (first | (refine wpList_load_rd rfl 24 _ rfl ⟨w.heap.size, 5, none⟩ rfl (bc r) _ (H1 ()) Tryd.underlying24 rfl (by rw [bc_length, HR ()]; kernel_rfl) ?_) | (refine wpList_load_rd_if rfl 24 _ rfl ⟨w.heap.size, 21, none⟩ rfl (bc m) _ (H2 ()) Tryd.underlying24 rfl (by rw [bc_length, HM ()]; kernel_rfl) ?_))
    go_ret
    exact ⟨rfl, (Below.refl _ _).alloc (Nat.le_refl _) _⟩
end Go.Proofs.YtbhaekdfpfncnaaDoor
