/- (*octet.Reader).Number: branch by branch. -/
import Derived.Test.YtfkbmnlohaghbaaRdr
namespace Go.Proofs.Ytfkbmnlohaghbaa
set_option linter.unusedVariables false
set_option linter.unusedSimpArgs false
open Go.RowKit

set_option maxHeartbeats 400000 in
theorem rnum_dead (g : Nat) (l : List UInt8) (e : Nat) (w : World) (F : Nat → Prop) (h : Rdr w F g l e) (h0 : 0 < e) :
    Calls Try.prog 14 #[.pointer (some ⟨g, 0, none⟩)] w fun en w' => en = .returned (.int .u64 0) ∧ w = w' := by
  have H := Lib.hid h
  clear h
  go_enter Try.func14, Try.ntmps14
  go_wp2_with (go_at_call 30; refine (dead_err g l e _ F H.out h0).mono ?_; rintro en w' ⟨rfl, rfl⟩)
  go_ret
  exact ⟨rfl, rfl⟩

set_option maxHeartbeats 400000 in
theorem rnum_nil (w : World) :
    Calls Try.prog 14 #[.pointer none] w fun en w' => en = .returned (.int .u64 0) ∧ w = w' := by
  go_enter Try.func14, Try.ntmps14
  go_wp2_with (go_at_call 30; refine (dead_nil _).mono ?_; rintro en w' ⟨rfl, rfl⟩)
  go_ret
  exact ⟨rfl, rfl⟩

set_option maxHeartbeats 400000 in
theorem rnum_empty (g : Nat) (w : World) (F : Nat → Prop) (h : Rdr w F g [] 0) :
    Calls Try.prog 14 #[.pointer (some ⟨g, 0, none⟩)] w fun en w' => en = .returned (.int .u64 0) ∧ Rdr w' F g [] 5 ∧ Fr F w w' := by
  have H := Lib.hid h
  obtain ⟨hg, hl, he, A, c, hb, hr, hc⟩ := h
  have h1 := (hb.cell 0).trans rfl
  clear hb hr
  go_enter Try.func14, Try.ntmps14
  go_wp2_with (first
    | (go_at_call 30; refine (dead_ok g [] _ F H.out).mono ?_; rintro en w' ⟨rfl, rfl⟩)
    | (go_at_call 31; refine (fail_calls g [] 0 5 _ F H.out (by omega)).mono ?_; rintro en w' ⟨rfl, hR, hF⟩))
  go_ret
  exact ⟨rfl, hR, hF⟩

set_option maxHeartbeats 400000 in
theorem rnum_bad (g : Nat) (n : UInt8) (t : List UInt8) (w : World) (F : Nat → Prop) (h : Rdr w F g (n :: t) 0) (hn : 8 < n.toNat) :
    Calls Try.prog 14 #[.pointer (some ⟨g, 0, none⟩)] w fun en w' => en = .returned (.int .u64 0) ∧ Rdr w' F g (n :: t) 4 ∧ Fr F w w' := by
  have H := Lib.hid h
  obtain ⟨hg, hl, he, A, c, hb, hr, hc⟩ := h
  have h1 := (hb.cell 0).trans rfl
  obtain ⟨b, off, rfl, hFb, hcell⟩ := hr.form (by simp)
  have h2 : w.cell? ⟨b, off, none⟩ = some (.int .u8 (n.toNat : Int)) := hcell 0 _ rfl
  have h3 := n.toNat_lt
  clear hb hr hcell
  simp only [List.length_cons] at h1 hc hl
  go_enter Try.func14, Try.ntmps14
  go_wp2_with (first
    | (go_at_call 30; refine (dead_ok g (n :: t) _ F H.out).mono ?_; rintro en w' ⟨rfl, rfl⟩)
    | (go_at_call 31; refine (fail_calls g (n :: t) 0 4 _ F H.out (by omega)).mono ?_; rintro en w' ⟨rfl, hR, hF⟩))
  go_ret
  exact ⟨rfl, hR, hF⟩

set_option maxHeartbeats 400000 in
theorem rnum_more (g : Nat) (n : UInt8) (t : List UInt8) (w : World) (F : Nat → Prop) (h : Rdr w F g (n :: t) 0) (hn : n.toNat ≤ 8) (ht : t.length < n.toNat) :
    Calls Try.prog 14 #[.pointer (some ⟨g, 0, none⟩)] w fun en w' => en = .returned (.int .u64 0) ∧ Rdr w' F g (n :: t) 5 ∧ Fr F w w' := by
  have H := Lib.hid h
  obtain ⟨hg, hl, he, A, c, hb, hr, hc⟩ := h
  have h1 := (hb.cell 0).trans rfl
  obtain ⟨b, off, rfl, hFb, hcell⟩ := hr.form (by simp)
  have h2 : w.cell? ⟨b, off, none⟩ = some (.int .u8 (n.toNat : Int)) := hcell 0 _ rfl
  have h3 := n.toNat_lt
  clear hb hr hcell
  simp only [List.length_cons] at h1 hc hl
  go_enter Try.func14, Try.ntmps14
  go_wp2_with (first
    | (go_at_call 30; refine (dead_ok g (n :: t) _ F H.out).mono ?_; rintro en w' ⟨rfl, rfl⟩)
    | (go_at_call 31; refine (fail_calls g (n :: t) 0 5 _ F H.out (by omega)).mono ?_; rintro en w' ⟨rfl, hR, hF⟩))
  go_ret
  exact ⟨rfl, hR, hF⟩

set_option maxHeartbeats 400000 in
theorem rnum_long (g : Nat) (n : UInt8) (t : List UInt8) (w : World) (F : Nat → Prop) (h : Rdr w F g (n :: 0 :: t) 0) (hn : n.toNat ≤ 8) (hn0 : 0 < n.toNat) (ht : n.toNat ≤ (0 :: t).length) :
    Calls Try.prog 14 #[.pointer (some ⟨g, 0, none⟩)] w fun en w' => en = .returned (.int .u64 0) ∧ Rdr w' F g (n :: 0 :: t) 4 ∧ Fr F w w' := by
  have H := Lib.hid h
  obtain ⟨hg, hl, he, A, c, hb, hr, hc⟩ := h
  have h1 := (hb.cell 0).trans rfl
  obtain ⟨b, off, rfl, hFb, hcell⟩ := hr.form (by simp)
  have h2 : w.cell? ⟨b, off, none⟩ = some (.int .u8 (n.toNat : Int)) := hcell 0 _ rfl
  have h2' : w.cell? ⟨b, off + 1, none⟩ = some (.int .u8 0) := hcell 1 _ rfl
  have h3 := n.toNat_lt
  clear hb hr hcell
  simp only [List.length_cons] at h1 hc hl ht
  go_enter Try.func14, Try.ntmps14
  go_wp2_with (first
    | (go_at_call 30; refine (dead_ok g (n :: 0 :: t) _ F H.out).mono ?_; rintro en w' ⟨rfl, rfl⟩)
    | (go_at_call 31; refine (fail_calls g (n :: 0 :: t) 0 4 _ F H.out (by omega)).mono ?_; rintro en w' ⟨rfl, hR, hF⟩))
  go_ret
  exact ⟨rfl, hR, hF⟩

set_option maxHeartbeats 1000000 in
theorem rnum_good (g : Nat) (n x : UInt8) (t : List UInt8) (w : World) (F : Nat → Prop) (h : Rdr w F g (n :: x :: t) 0) (hn : n.toNat ≤ 8) (hn0 : 0 < n.toNat) (hx : 0 < x.toNat) (ht : n.toNat ≤ (x :: t).length) :
    Calls Try.prog 14 #[.pointer (some ⟨g, 0, none⟩)] w fun en w' => en = .returned (.int .u64 (val ((x :: t).take n.toNat) : Int)) ∧ Rdr w' F g ((x :: t).drop n.toNat) 0 ∧ Fr F w w' := by
  have H := Lib.hid h
  obtain ⟨hg, hl, he, A, c, hb, hr, hc⟩ := h
  have h1 := (hb.cell 0).trans rfl
  have hf := hb.frozen 0
  obtain ⟨b, off, rfl, hFb, hcell⟩ := hr.form (by simp)
  have h2 : w.cell? ⟨b, off, none⟩ = some (.int .u8 (n.toNat : Int)) := hcell 0 _ rfl
  have h2' : w.cell? ⟨b, off + 1, none⟩ = some (.int .u8 (x.toNat : Int)) := hcell 1 _ rfl
  have hx' : ((x.toNat : Int) == 0) = false := by rw [beq_eq_false_iff_ne]; omega
  have h3 := n.toNat_lt
  have hcl : ∀ j, j < t.length + 1 → ∃ y : UInt8, (x :: t)[j]? = some y ∧ w.cell? ⟨b, off + 1 + j, none⟩ = some (.int .u8 (y.toNat : Int)) := by
    intro j hj
    have hj' : j < (x :: t).length := by simpa using hj
    refine ⟨(x :: t)[j], List.getElem?_eq_getElem hj', ?_⟩
    have := hcell (j + 1) (.int .u8 ((x :: t)[j].toNat : Int)) (by rw [bc_cons, List.getElem?_cons_succ, bc_get _ _ hj'])
    rwa [Nat.add_comm j 1, ← Nat.add_assoc] at this
  have HB := Lib.hid hb
  have HR := Lib.hid hr
  have HC := Lib.hid hcl
  clear hb hr hcell hcl
  simp only [List.length_cons] at h1 hc hl ht
  go_enter Try.func14, Try.ntmps14
  go_wp2_with (go_at_call 30; refine (dead_ok g (n :: x :: t) _ F H.out).mono ?_; rintro en w' ⟨rfl, rfl⟩)
  go_loop [4, 62] (fun v i => ∃ k : Nat, k ≤ n.toNat ∧ i = .int .i64 k ∧ v = .int .u64 (val ((x :: t).take k))) (fun _ i => n.toNat - (intOf i).toNat)
  case atStart => exact ⟨0, by omega, rfl, by simp [val_nil]⟩
  case round =>
    obtain ⟨k, hk, rfl, rfl⟩ := hrel
    by_cases hlt : k < n.toNat
    · obtain ⟨y, hy, hcy⟩ := HC.out k (by omega)
      have hv := val_lt ((x :: t).take k)
      have hp := pow256_le (k := k) (by omega)
      have hln : ((x :: t).take k).length = k := by simp; omega
      rw [hln] at hv
      have hv' : val ((x :: t).take k) < 72057594037927936 := Nat.lt_of_lt_of_le hv hp
      clear hv hp hln
      obtain ⟨v, hvv⟩ : ∃ v, v = val ((x :: t).take k) := ⟨_, rfl⟩
      rw [← hvv] at hv' ⊢
      have HV := Lib.hid hvv
      have HY := Lib.hid hy
      clear hvv hy
      go_wp2
      go_round
      case rel =>
        refine ⟨k + 1, by omega, by go_num, ?_⟩
        have hy2 := y.toNat_lt
        have hy3 := (List.getElem?_eq_some_iff.1 HY.out).2
        rw [val_take_succ _ _ (by simp; omega), hy3, ← HV.out, ← or_byte v y.toNat hv' (by omega)]
      case measure => simp [intOf]; omega
    · have hk2 : k = n.toNat := by omega
      subst hk2
      clear HC
      have hdl : ((x :: t).drop n.toNat).length = t.length + 1 - n.toNat := by simp
      have hdc : (x :: t).drop n.toNat = (n :: x :: t).drop (1 + n.toNat) := by rw [Nat.add_comm 1, List.drop_succ_cons]
      have HD := Lib.hid hdl
      have HE := Lib.hid hdc
      clear hdl hdc
      go_wp2
      all_goals
        go_ret
        refine ⟨rfl, rdr_store H.out ?_ (by have := HD.out; omega) (by have := HD.out; omega) (by have := HD.out; simp only [List.length_cons]; omega)⟩
      · have hn' : (x :: t).drop n.toNat = [] := List.drop_eq_nil_of_le (by simp; omega)
        rw [hn']
        exact Rd.nil _ _ _
      · rw [HE.out, bc_drop]
        exact HR.out.cutAt (1 + n.toNat)

set_option maxHeartbeats 1000000 in
theorem rnum_zero (g : Nat) (t : List UInt8) (w : World) (F : Nat → Prop) (h : Rdr w F g (0 :: t) 0) :
    Calls Try.prog 14 #[.pointer (some ⟨g, 0, none⟩)] w fun en w' => en = .returned (.int .u64 0) ∧ Rdr w' F g t 0 ∧ Fr F w w' := by
  have H := Lib.hid h
  obtain ⟨hg, hl, he, A, c, hb, hr, hc⟩ := h
  have h1 := (hb.cell 0).trans rfl
  have hf := hb.frozen 0
  obtain ⟨b, off, rfl, hFb, hcell⟩ := hr.form (by simp)
  have h2 : w.cell? ⟨b, off, none⟩ = some (.int .u8 0) := hcell 0 _ rfl
  have HR := Lib.hid hr
  clear hb hr hcell
  simp only [List.length_cons] at h1 hc hl
  go_enter Try.func14, Try.ntmps14
  go_wp2_with (go_at_call 30; refine (dead_ok g (0 :: t) _ F H.out).mono ?_; rintro en w' ⟨rfl, rfl⟩)
  all_goals refine wp_loop_rounds 1 ?_
  all_goals rw [rounds_succ]
  all_goals go_wp2
  all_goals go_ret
  all_goals refine ⟨rfl, rdr_store H.out ?_ (by omega) (by omega) (by simp)⟩
  · have hn' : t = [] := List.eq_nil_of_length_eq_zero (by omega)
    rw [hn']
    exact Rd.nil _ _ _
  · have := HR.out.cutAt 1
    rwa [show (bc ((0 : UInt8) :: t)).drop 1 = bc t from rfl] at this

/-- What is left behind a number is no longer than before. -/
theorem rnum_calls (g : Nat) (l : List UInt8) (e : Nat) (w : World) (F : Nat → Prop) (h : Rdr w F g l e) :
    Calls Try.prog 14 #[.pointer (some ⟨g, 0, none⟩)] w fun en w' => en = .returned (.int .u64 ((rNum l e).1 : Int)) ∧ Rdr w' F g (rNum l e).2.1 (rNum l e).2.2 ∧ Fr F w w' := by
  unfold rNum
  by_cases he : 0 < e
  · rw [if_pos he]
    refine (rnum_dead g l e w F h he).mono ?_
    rintro en w' ⟨rfl, rfl⟩
    exact ⟨rfl, h, Fr.refl _ _⟩
  · have he0 : e = 0 := by omega
    subst he0
    rw [if_neg he]
    cases l with
    | nil => exact rnum_empty g w F h
    | cons n t =>
      simp only
      by_cases h8 : 8 < n.toNat
      · rw [if_pos h8]; exact rnum_bad g n t w F h h8
      · rw [if_neg h8]
        by_cases hm : t.length < n.toNat
        · rw [if_pos hm]; exact rnum_more g n t w F h (by omega) hm
        · rw [if_neg hm]
          by_cases hz : n.toNat = 0
          · have hn : n = 0 := UInt8.toNat_inj.1 (by simpa using hz)
            subst hn
            rw [if_neg (by simp)]
            exact rnum_zero g t w F h
          · cases t with
            | nil => simp at hm; omega
            | cons x t =>
              by_cases hx : x = 0
              · subst hx
                rw [if_pos ⟨by omega, rfl⟩]
                exact rnum_long g n t w F h (by omega) (by omega) (by omega)
              · have hx0 : 0 < x.toNat := by
                  rcases Nat.eq_zero_or_pos x.toNat with h0 | h0
                  · exact absurd (UInt8.toNat_inj.1 (by simpa using h0)) hx
                  · exact h0
                rw [if_neg (by simp [hx])]
                exact rnum_good g n x t w F h (by omega) (by omega) hx0 (by omega)
end Go.Proofs.Ytfkbmnlohaghbaa
