/- The state of a reader in memory, and what dead and fail do to it. -/
import Derived.Test.YtfkbmnlohaghbaaOctA
import Derived.Test.YtfkbmnlohaghbaaPlain
namespace Go.Proofs.Ytfkbmnlohaghbaa
set_option linter.unusedVariables false
set_option linter.unusedSimpArgs false
open Go.RowKit

/-- Reader g: what is left, its error. F: the blocks that it is made of. -/
def Rdr (w : World) (F : Nat → Prop) (g : Nat) (l : List UInt8) (e : Nat) : Prop :=
  F g ∧ l.length ≤ 140737488351232 ∧ e ≤ 14 ∧ ∃ A c, Blk w g 56 #[.slice A l.length c, .int .i64 (e : Int), .bool true] ∧ Rd w (fun k => F k ∧ k ≠ g) A (bc l) ∧ l.length ≤ c

section
variable {w w' : World} {F S : Nat → Prop} {g : Nat} {l : List UInt8} {e : Nat}
theorem Rdr.keep (h : Rdr w F g l e) (hf : Fr S w w') (hd : ∀ k, k < w.heap.size → F k → ¬ S k) : Rdr w' F g l e := by
  obtain ⟨hg, hl, he, A, c, hb, hr, hc⟩ := h
  exact ⟨hg, hl, he, A, c, hb.keep hf (hd g hb.lt hg), hr.keep hf fun k hk hF => hd k hk hF.1, hc⟩
theorem Rdr.below (h : Rdr w F g l e) (hb : Below w.heap.size w w') : Rdr w' F g l e := h.keep (S := fun _ => False) (Fr.new hb) fun _ _ _ h => h
theorem Rdr.drew (h : Rdr w F g l e) : Rdr w.drew F g l e := by
  obtain ⟨hg, hl, he, A, c, hb, hr, hc⟩ := h
  exact ⟨hg, hl, he, A, c, hb.drew, hr.drew, hc⟩
theorem Rdr.lt (h : Rdr w F g l e) : g < w.heap.size := by
  obtain ⟨_, _, _, A, c, hb, _, _⟩ := h
  exact hb.lt
end

/-- The reader's bytes cut: a store into its first field. -/
theorem rdr_store {w : World} {F : Nat → Prop} {g : Nat} {l l' : List UInt8} {e : Nat} {A' : Option Addr} {m c' : Nat} (h : Rdr w F g l e) (hr : Rd w (fun k => F k ∧ k ≠ g) A' (bc l')) (hm : m = l'.length) (hc : l'.length ≤ c') (hl : l'.length ≤ l.length) :
    Rdr (w.setCell ⟨g, 0, none⟩ (.slice A' m c')) F g l' e ∧ Fr F w (w.setCell ⟨g, 0, none⟩ (.slice A' m c')) := by
  subst hm
  obtain ⟨hg, hl0, he, A, c, hb, _, _⟩ := h
  exact ⟨⟨hg, by omega, he, A', c', by simpa using hb.set_ 0 (.slice A' l'.length c'), hr.keep ((Fr.refl (fun k => k = g) w).set1 rfl _) fun k _ hk => hk.2, hc⟩, (Fr.refl _ _).set1 hg _⟩
/-- The first error is laid. -/
theorem fail_calls (g : Nat) (l : List UInt8) (e e' : Nat) (w : World) (F : Nat → Prop) (h : Rdr w F g l e) (he' : e' ≤ 14) :
    Calls Try.prog 31 #[.pointer (some ⟨g, 0, none⟩), .int .i64 (e' : Int)] w fun en w' => en = .returned (.tuple #[]) ∧ Rdr w' F g l e' ∧ Fr F w w' := by
  obtain ⟨hg, hl, he, A, c, hb, hr, hc⟩ := h
  have h1 := (hb.cell 1).trans rfl
  have h2 := hb.frozen 1
  go_enter Try.func31, Try.ntmps31
  go_wp2
  go_end0
  refine ⟨rfl, ⟨hg, hl, he', A, c, by simpa using hb.set_ 1 (.int .i64 (e' : Int)), hr.keep ((Fr.refl (fun k => k = g) w).set1 rfl _) fun k _ hk => hk.2, hc⟩, (Fr.refl _ _).set1 hg _⟩

theorem dead_nil (w : World) : Calls Try.prog 30 #[.pointer none] w fun en w' => en = .returned (.bool true) ∧ w = w' := by
  go_enter Try.func30, Try.ntmps30
  go_wp2
  go_ret
  exact ⟨rfl, rfl⟩
theorem dead_ok (g : Nat) (l : List UInt8) (w : World) (F : Nat → Prop) (h : Rdr w F g l 0) :
    Calls Try.prog 30 #[.pointer (some ⟨g, 0, none⟩)] w fun en w' => en = .returned (.bool false) ∧ w = w' := by
  obtain ⟨hg, hl, he, A, c, hb, hr, hc⟩ := h
  have h1 := (hb.cell 1).trans rfl
  have h2 := (hb.cell 2).trans rfl
  clear hb
  go_enter Try.func30, Try.ntmps30
  go_wp2
  go_ret
  exact ⟨rfl, rfl⟩
theorem dead_err (g : Nat) (l : List UInt8) (e : Nat) (w : World) (F : Nat → Prop) (h : Rdr w F g l e) (h0 : 0 < e) :
    Calls Try.prog 30 #[.pointer (some ⟨g, 0, none⟩)] w fun en w' => en = .returned (.bool true) ∧ w = w' := by
  obtain ⟨hg, hl, he, A, c, hb, hr, hc⟩ := h
  have h1 := (hb.cell 1).trans rfl
  have h2 := (hb.cell 2).trans rfl
  have h3 : ((e : Int) != 0) = true := by rw [bne_iff_ne]; omega
  clear hb
  go_enter Try.func30, Try.ntmps30
  go_wp2
  go_ret
  exact ⟨rfl, rfl⟩
end Go.Proofs.Ytfkbmnlohaghbaa
