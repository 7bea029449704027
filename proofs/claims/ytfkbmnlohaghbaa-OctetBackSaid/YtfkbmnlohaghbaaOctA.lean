/- Contracts of Own, slices.Clone, octet.Number: each returns new memory that reads as the list that it should. No condition beyond lengths. -/
import Derived.Test.YtfkbmnlohaghbaaProg
import Derived.Test.YtfkbmnlohaghbaaWords
import Derived.Lib.SlBytesConst
namespace Go.Proofs.Ytfkbmnlohaghbaa
set_option linter.unusedVariables false
set_option linter.unusedSimpArgs false
open Go.RowKit

theorem info_u8 : (Try.prog.info? 5).map (fun i => (i.zero, i.size, i.bytes)) = some (some (.int .u8 0), 1, 1) := by kernel_rfl

set_option maxHeartbeats 400000 in
theorem own_calls (A : Option Addr) (l : List UInt8) (c : Nat) (w : World) (F : Nat → Prop) (hr : Rd w F A (bc l)) (hl : l.length ≤ 140737488351232) :
    Calls Try.prog 17 #[.slice A l.length c] w fun e w' => ∃ A' c', e = .returned (.slice A' l.length c') ∧ w'.ownsRow w.heap.size 5 1 (.slice A' l.length c') l.length (bc l) ∧ Below w.heap.size w w' := by
  obtain ⟨i0, hi0, hz0, hz1, hz2⟩ := info_parts info_u8
  go_enter Try.func17, Try.ntmps17
  go_wp2_with (at_builtin; refine wpList_append_rd _ rfl (.tmp 3) (.tmp 4) _ rfl w.heap.size 5 i0 _ 1 Try.underlying24 hi0 hz0 hz1 hz2 rfl (.slice (some ⟨w.heap.size, 0, none⟩) 0 0) 0 [] rfl (World.ownsRow_made w #[] 0 (Nat.le_refl _) (by decide) rfl) F A _ c (bc l) rfl (by simp) (hr.alloc _) (bc_one l) (by simp [maxLen]; omega) (by simp; omega) (by simp) ?_; intro v1 w1 hown1 hg1 hat1)
  go_ret
  obtain ⟨A', c', rfl, _⟩ := own_shape hown1
  exact ⟨A', c', by simp, by simpa using hown1, ((Below.refl _ _).alloc (Nat.le_refl _) _).grown hg1 (by simp) (by simp [Value.ownBlock])⟩

@[go_sem] theorem u8_eql_nil (a : Option Addr) (n c : Nat) (w : World) : (binOp .eql 24 (.slice a n c) (.slice none 0 0)).run Try.prog w = .ok (.bool a.isNone) w :=
  Lib.run_eql_slice_nil w 24 5 a n c 0 0 Try.underlying24

set_option maxHeartbeats 400000 in
theorem clone_some (ad : Addr) (l : List UInt8) (c : Nat) (w : World) (F : Nat → Prop) (hr : Rd w F (some ad) (bc l)) (hl : l.length ≤ 140737488351232) :
    Calls Try.prog 29 #[.slice (some ad) l.length c] w fun e w' => ∃ A' c', e = .returned (.slice A' l.length c') ∧ w'.ownsRow w.heap.size 5 1 (.slice A' l.length c') l.length (bc l) ∧ Below w.heap.size w w' := by
  obtain ⟨i0, hi0, hz0, hz1, hz2⟩ := info_parts info_u8
  go_enter Try.func29, Try.ntmps29
  go_wp2_with (at_builtin; refine wpList_append_rd _ rfl (.tmp 5) (.tmp 6) _ rfl w.heap.size 5 i0 _ 1 Try.underlying24 hi0 hz0 hz1 hz2 rfl (.slice (some ⟨w.heap.size, 0, none⟩) 0 0) 0 [] rfl (World.ownsRow_made w #[] 0 (Nat.le_refl _) (by decide) rfl) F (some ad) _ c (bc l) rfl (by simp) (hr.alloc _) (bc_one l) (by simp [maxLen]; omega) (by simp; omega) (by simp) ?_; intro v1 w1 hown1 hg1 hat1)
  go_ret
  obtain ⟨A', c', rfl, _⟩ := own_shape hown1
  exact ⟨A', c', by simp, by simpa using hown1, ((Below.refl _ _).alloc (Nat.le_refl _) _).grown hg1 (by simp) (by simp [Value.ownBlock])⟩

set_option maxHeartbeats 400000 in
theorem clone_none (c : Nat) (w : World) :
    Calls Try.prog 29 #[.slice none 0 c] w fun e w' => ∃ A' c', e = .returned (.slice A' 0 c') ∧ w'.ownsRow w.heap.size 5 1 (.slice A' 0 c') 0 (bc []) ∧ Below w.heap.size w w' := by
  go_enter Try.func29, Try.ntmps29
  go_wp2
  go_ret
  exact ⟨none, 0, rfl, World.ownsRow_nil _ _ _ _, Below.refl _ _⟩

/-- slices.Clone of bytes. -/
theorem clone_calls (A : Option Addr) (l : List UInt8) (c : Nat) (w : World) (F : Nat → Prop) (hr : Rd w F A (bc l)) (hl : l.length ≤ 140737488351232) :
    Calls Try.prog 29 #[.slice A l.length c] w fun e w' => ∃ A' c', e = .returned (.slice A' l.length c') ∧ w'.ownsRow w.heap.size 5 1 (.slice A' l.length c') l.length (bc l) ∧ Below w.heap.size w w' := by
  cases A with
  | some ad => exact clone_some ad l c w F hr hl
  | none =>
    cases l with
    | nil => exact clone_none c w
    | cons x l => obtain ⟨ad, h, _⟩ := hr 0 _ rfl; cases h

/-- string(b). -/
theorem conv_str {w : World} {F : Nat → Prop} {A : Option Addr} {l : List UInt8} (c : Nat) (hr : Rd w F A (bc l)) : (convert 24 9 (.slice A l.length c)).run Try.prog w = .ok (.string (str l)) w :=
  run_str Try.underlying24 Try.underlying5 Try.underlying9 c hr
/-- []byte("constant"): the row is marked. -/
@[go_sem] theorem conv_const (w : World) (C : Array Value) (n c : Nat) : (convert 24 24 (.slice (some ⟨w.heap.size, 0, none⟩) n c)).run Try.prog (w.alloc (.cells C 5)) = .ok (.slice (some ⟨w.heap.size, 0, none⟩) n c) (w.alloc (.cells C 5 (C.size, C.size + 1))) :=
  Lib.run_convert_bytes_const w 24 5 C n c Try.underlying24 Try.underlying5
end Go.Proofs.Ytfkbmnlohaghbaa
