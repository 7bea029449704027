/- The reader's other methods: Upto, Fixed, Block, Left, Err, End, and New; branch by branch and as one contract each. -/
import Derived.Test.YtfkbmnlohaghbaaRdrNum
namespace Go.Proofs.Ytfkbmnlohaghbaa
set_option linter.unusedVariables false
set_option linter.unusedSimpArgs false
open Go.RowKit

theorem rdr_form {w : World} {F : Nat → Prop} {g : Nat} {l : List UInt8} {e : Nat} (h : Rdr w F g l e) :
    ∃ A c, w.cell? ⟨g, 0, none⟩ = some (.slice A l.length c) ∧ w.cell? ⟨g, 1, none⟩ = some (.int .i64 (e : Int)) ∧ w.cell? ⟨g, 2, none⟩ = some (.bool true) ∧ w.frozen? ⟨g, 0, none⟩ = false ∧ Rd w (fun k => F k ∧ k ≠ g) A (bc l) ∧ l.length ≤ c ∧ l.length ≤ 140737488351232 ∧ F g ∧ g < w.heap.size := by
  obtain ⟨hg, hl, he, A, c, hb, hr, hc⟩ := h
  exact ⟨A, c, (hb.cell 0).trans rfl, (hb.cell 1).trans rfl, (hb.cell 2).trans rfl, hb.frozen 0, hr, hc, hl, hg, hb.lt⟩

theorem left_nil (w : World) : Calls Try.prog 26 #[.pointer none] w fun en w' => en = .returned (.int .i64 0) ∧ w = w' := by
  go_enter Try.func26, Try.ntmps26
  go_wp2
  go_ret
  exact ⟨rfl, rfl⟩
theorem left_calls (g : Nat) (l : List UInt8) (e : Nat) (w : World) (F : Nat → Prop) (h : Rdr w F g l e) :
    Calls Try.prog 26 #[.pointer (some ⟨g, 0, none⟩)] w fun en w' => en = .returned (.int .i64 (l.length : Int)) ∧ w = w' := by
  obtain ⟨A, c, h0, _, _, _, _, _, _, _, _⟩ := rdr_form h
  clear h
  go_enter Try.func26, Try.ntmps26
  go_wp2
  go_ret
  exact ⟨rfl, rfl⟩
theorem err_nil (w : World) : Calls Try.prog 15 #[.pointer none] w fun en w' => en = .returned (.int .i64 1) ∧ w = w' := by
  go_enter Try.func15, Try.ntmps15
  go_wp2
  go_ret
  exact ⟨rfl, rfl⟩
theorem err_calls (g : Nat) (l : List UInt8) (e : Nat) (w : World) (F : Nat → Prop) (h : Rdr w F g l e) :
    Calls Try.prog 15 #[.pointer (some ⟨g, 0, none⟩)] w fun en w' => en = .returned (.int .i64 (e : Int)) ∧ w = w' := by
  obtain ⟨A, c, _, h1, h2, _, _, _, _, _, _⟩ := rdr_form h
  clear h
  go_enter Try.func15, Try.ntmps15
  go_wp2
  go_ret
  exact ⟨rfl, rfl⟩
theorem end_nil (w : World) : Calls Try.prog 25 #[.pointer none] w fun en w' => en = .returned (.int .i64 1) ∧ w = w' := by
  go_enter Try.func25, Try.ntmps25
  go_wp2_with (go_at_call 15; refine (err_nil _).mono ?_; rintro en w' ⟨rfl, rfl⟩)
  go_ret
  exact ⟨rfl, rfl⟩
theorem end_calls (g : Nat) (l : List UInt8) (e : Nat) (w : World) (F : Nat → Prop) (h : Rdr w F g l e) :
    Calls Try.prog 25 #[.pointer (some ⟨g, 0, none⟩)] w fun en w' => en = .returned (.int .i64 (rEnd l e : Int)) ∧ Rdr w' F g l (rEnd l e) ∧ Fr F w w' := by
  have H := Lib.hid h
  obtain ⟨A, c, h0, h1, _, _, _, _, _, _, _⟩ := rdr_form h
  clear h
  unfold rEnd
  by_cases he : 0 < e
  · rw [if_pos he]
    have h3 : ((e : Int) != 0) = true := by rw [bne_iff_ne]; omega
    go_enter Try.func25, Try.ntmps25
    go_wp2_with (go_at_call 15; refine (err_calls g l e _ F H.out).mono ?_; rintro en w' ⟨rfl, rfl⟩)
    go_ret
    exact ⟨rfl, H.out, Fr.refl _ _⟩
  · have he0 : e = 0 := by omega
    subst he0
    rw [if_neg he]
    by_cases hl : 0 < l.length
    · rw [if_pos hl]
      go_enter Try.func25, Try.ntmps25
      go_wp2_with (first
        | (go_at_call 15; refine (err_calls g l 0 _ F H.out).mono ?_; rintro en w' ⟨rfl, rfl⟩)
        | (go_at_call 31; refine (fail_calls g l 0 4 _ F H.out (by omega)).mono ?_; rintro en w2 ⟨rfl, hR, hF⟩; obtain ⟨A2, c2, _, k1, _, _, _, _, _, _, _⟩ := rdr_form hR))
      go_ret
      exact ⟨rfl, hR, hF⟩
    · rw [if_neg hl]
      go_enter Try.func25, Try.ntmps25
      go_wp2_with (go_at_call 15; refine (err_calls g l 0 _ F H.out).mono ?_; rintro en w' ⟨rfl, rfl⟩)
      go_ret
      exact ⟨rfl, H.out, Fr.refl _ _⟩

theorem upto_nil (most : Int) (w : World) : Calls Try.prog 28 #[.pointer none, .int .u64 most] w fun en w' => en = .returned (.int .u64 0) ∧ w = w' := by
  go_enter Try.func28, Try.ntmps28
  go_wp2_with (first
    | (go_at_call 14; refine (rnum_nil _).mono ?_; rintro en w' ⟨rfl, rfl⟩)
    | (go_at_call 30; refine (dead_nil _).mono ?_; rintro en w' ⟨rfl, rfl⟩))
  go_ret
  exact ⟨rfl, rfl⟩
theorem upto_calls (g : Nat) (l : List UInt8) (e most : Nat) (w : World) (F : Nat → Prop) (h : Rdr w F g l e) :
    Calls Try.prog 28 #[.pointer (some ⟨g, 0, none⟩), .int .u64 (most : Int)] w fun en w' => en = .returned (.int .u64 ((rUpto l e most).1 : Int)) ∧ Rdr w' F g (rUpto l e most).2.1 (rUpto l e most).2.2 ∧ Fr F w w' := by
  have H := rnum_calls g l e w F h
  clear h
  unfold rUpto
  obtain ⟨⟨v, l', e'⟩, hr⟩ : ∃ r, r = rNum l e := ⟨_, rfl⟩
  rw [← hr] at H ⊢
  clear hr
  simp only at H ⊢
  have H := Lib.hid H
  by_cases he : 0 < e'
  · rw [if_pos he]
    go_enter Try.func28, Try.ntmps28
    go_wp2_with (first
      | (go_at_call 14; refine (H.out).mono ?_; rintro en w1 ⟨rfl, hR, hF⟩)
      | (go_at_call 30; refine (dead_err g l' e' _ F hR he).mono ?_; rintro en w' ⟨rfl, rfl⟩))
    go_ret
    exact ⟨rfl, hR, hF⟩
  · have he0 : e' = 0 := by omega
    subst he0
    rw [if_neg he]
    by_cases hm : most < v
    · rw [if_pos hm]
      go_enter Try.func28, Try.ntmps28
      go_wp2_with (first
        | (go_at_call 14; refine (H.out).mono ?_; rintro en w1 ⟨rfl, hR, hF⟩)
        | (go_at_call 30; refine (dead_ok g l' _ F hR).mono ?_; rintro en w' ⟨rfl, rfl⟩)
        | (go_at_call 31; refine (fail_calls g l' 0 3 _ F hR (by omega)).mono ?_; rintro en w2 ⟨rfl, hR2, hF2⟩))
      go_ret
      exact ⟨rfl, hR2, hF.trans hF2⟩
    · rw [if_neg hm]
      go_enter Try.func28, Try.ntmps28
      go_wp2_with (first
        | (go_at_call 14; refine (H.out).mono ?_; rintro en w1 ⟨rfl, hR, hF⟩)
        | (go_at_call 30; refine (dead_ok g l' _ F hR).mono ?_; rintro en w' ⟨rfl, rfl⟩))
      go_ret
      exact ⟨rfl, hR, hF⟩
end Go.Proofs.Ytfkbmnlohaghbaa
