/- The walk of the law OctetErrs. No condition. -/
import Derived.Test.YtfkbmnlohaghbaaLives1
import Derived.Test.YtfkbmnlohaghbaaKit
import Derived.Test.YtfkbmnlohaghbaaPlain3
namespace Go.Proofs.Ytfkbmnlohaghbaa
set_option linter.unusedVariables false
set_option linter.unusedSimpArgs false
open Go.RowKit

/-- The cells of a list of reads. -/
def rc (rs : List (Int × Int)) : List Value := rs.flatMap fun p => [.int .i64 p.1, .int .i64 p.2]
theorem rc_length (rs : List (Int × Int)) : (rc rs).length = 2 * rs.length := by
  induction rs with
  | nil => rfl
  | cons p rs ih =>
    have : rc (p :: rs) = .int .i64 p.1 :: .int .i64 p.2 :: rc rs := rfl
    rw [this]; simp [ih]; omega
theorem rc_get : ∀ (rs : List (Int × Int)) (j : Nat) (h : j < rs.length), (rc rs)[2 * j]? = some (.int .i64 rs[j].1) ∧ (rc rs)[2 * j + 1]? = some (.int .i64 rs[j].2)
  | [], j, h => by simp at h
  | p :: rs, 0, h => ⟨rfl, rfl⟩
  | p :: rs, j + 1, h => by
    have h2 : rc (p :: rs) = .int .i64 p.1 :: .int .i64 p.2 :: rc rs := rfl
    have := rc_get rs j (by simpa using h)
    rw [h2, show 2 * (j + 1) = 2 * j + 2 from by omega, List.getElem?_cons_succ, List.getElem?_cons_succ]
    exact this

/-- What a read does to a reader's state. -/
def Kept (l : List UInt8) (e : Nat) (l' : List UInt8) (e' : Nat) (z : Bool) : Prop :=
  l'.length ≤ l.length ∧ (0 < e → z = true ∧ l' = l ∧ e' = e) ∧ (0 < e' → z = true)
theorem kept_num (l : List UInt8) (e : Nat) : Kept l e (rNum l e).2.1 (rNum l e).2.2 (((rNum l e).1 : Int) == 0) := by
  unfold Kept rNum
  by_cases he : 0 < e
  · simp [he]
  · rw [if_neg he]
    cases l with
    | nil => simp [he]
    | cons n t =>
      simp only
      split
      · simp [he]
      · split
        · simp [he]
        · split
          · simp [he]
          · refine ⟨by simp; omega, fun h => absurd h he, fun h => by simp at h⟩
theorem kept_upto (l : List UInt8) (e m : Nat) : Kept l e (rUpto l e m).2.1 (rUpto l e m).2.2 (((rUpto l e m).1 : Int) == 0) := by
  have h := kept_num l e
  unfold Kept at *
  unfold rUpto
  split
  · next h1 => exact ⟨h.1, fun he => ⟨rfl, (h.2.1 he).2⟩, fun _ => rfl⟩
  · next h1 =>
    split
    · exact ⟨h.1, fun he => by have := (h.2.1 he).2.2; omega, fun _ => rfl⟩
    · exact h
theorem kept_fix (l : List UInt8) (e m : Nat) : Kept l e (rFix l e m).2.1 (rFix l e m).2.2 (((rFix l e m).1.length : Int) == 0) := by
  unfold Kept rFix
  split
  · simp
  · next he =>
    split
    · simp [he]
    · refine ⟨by simp, fun h => absurd h he, fun h => by simp at h⟩
theorem kept_blk (l : List UInt8) (e : Nat) : Kept l e (rBlk l e).2.1 (rBlk l e).2.2 (((rBlk l e).1.length : Int) == 0) := by
  have h := kept_num l e
  unfold rBlk
  split
  · next h1 => exact ⟨h.1, fun he => ⟨rfl, (h.2.1 he).2⟩, fun _ => rfl⟩
  · next h1 =>
    split
    · exact ⟨h.1, fun he => by have := (h.2.1 he).2.2; omega, fun _ => rfl⟩
    · have k := kept_fix (rNum l e).2.1 0 (rNum l e).1
      exact ⟨Nat.le_trans k.1 h.1, fun he => by have := (h.2.1 he).2.2; omega, k.2.2⟩
theorem kept_end (l : List UInt8) (e : Nat) : Kept l e l (rEnd l e) true := by
  unfold Kept rEnd
  refine ⟨Nat.le_refl _, fun he => ⟨rfl, rfl, by rw [if_pos he]⟩, fun _ => rfl⟩

set_option maxHeartbeats 4000000 in
set_option maxRecDepth 4000 in
theorem errs_go (w : World) (A : Option Addr) (l : List UInt8) (c : Nat) (hr : Rd w (fun k => k < w.heap.size) A (bc l)) (hc : l.length ≤ c) (B : Option Addr) (rs : List (Int × Int)) (d : Nat) (hs : Rd w (fun k => k < w.heap.size) B (rc rs))
    (hb64 : ∀ (j : Nat) (h : j < rs.length), (-9223372036854775808 ≤ rs[j].1 ∧ rs[j].1 ≤ 9223372036854775807) ∧ (-9223372036854775808 ≤ rs[j].2 ∧ rs[j].2 ≤ 9223372036854775807))
    (hl3 : l.length ≤ 3000) (hr3 : rs.length ≤ 50) :
    Calls Try.prog 10 #[.slice A l.length c, .slice B rs.length d] w fun e w' => e = .returned (.bool true) ∧ Below w.heap.size w w' := by
  have HA := Lib.hid hr
  have HB := Lib.hid hs
  clear hr hs
  go_enter Try.func10, Try.ntmps10
  go_wp2_with fail
  refine (lives1 _).mono ?_
  rintro e w1 ⟨rfl, hb1⟩
  go_wp2_with fail
  refine (own_calls A l c _ _ (HA.out.below hb1) (by omega)).mono ?_
  rintro e w2 ⟨A2, c2, rfl, hown2, hb2⟩
  go_wp2_with fail
  refine (new_calls A2 l c2 _ _ (Rd.of_own hown2 (by omega)) (by omega)).mono ?_
  rintro e w3 ⟨g, rfl, hR3, hb3⟩
  have a3 := below_then (below_then hb1 hb2 (Nat.le_refl _)) hb3 (Nat.le_refl _)
  have hs2 : w.heap.size ≤ w2.heap.size := Nat.le_trans hb1.size hb2.size
  have HB3 := Lib.hid (HB.out.belowB a3 fun k hk => hk)
  clear hown2 hb1 hb2 hb3 HA HB
  go_wp2_with fail
  go_loopw [6] (fun i wr => ∃ (j : Nat) (l1 : List UInt8) (e1 : Nat), j ≤ rs.length ∧ i = .int .i64 j ∧ Hid (Rdr wr (fun k => w2.heap.size ≤ k ∧ k < w3.heap.size) g l1 e1) ∧ Hid (Rd wr (fun k => k < w.heap.size) B (rc rs)) ∧ Below w.heap.size w wr) (fun i _ => rs.length - (intOf i).toNat)
  case atStart => exact ⟨0, l, 0, by omega, rfl, hR3, HB3, a3⟩
  case round =>
    obtain ⟨j, l1, e1, hj, rfl, HR, HB, hbel⟩ := hrel
    by_cases hlt : j < rs.length
    · obtain ⟨b, off, rfl, hbb, hcell⟩ := Rd.form HB.out (by rw [rc_length]; omega)
      have hg := rc_get rs j hlt
      have hc0 := hcell _ _ hg.1
      have hc1 := hcell _ _ hg.2
      obtain ⟨kd, hkd⟩ : ∃ x, x = rs[j].1 := ⟨_, rfl⟩
      obtain ⟨nm, hnm⟩ : ∃ x, x = rs[j].2 := ⟨_, rfl⟩
      have hbd := hb64 j hlt
      rw [← hkd] at hc0 hbd
      rw [← hnm] at hc1 hbd
      rw [show off + 2 * j = off + j * 2 from by omega] at hc0
      rw [show off + (2 * j + 1) = off + j * 2 + 1 from by omega] at hc1
      clear hg hkd hnm hcell
      go_wp2_with fail
      refine (err_calls g l1 e1 _ _ HR.out).mono ?_
      rintro e w' ⟨rfl, rfl⟩
      go_wp2_with fail
      refine (left_calls g l1 e1 _ _ HR.out).mono ?_
      rintro e w' ⟨rfl, rfl⟩
      go_wp2_with fail
      refine (pick_calls kd 5 _ hbd.1.1 hbd.1.2 (by omega) (by omega)).mono ?_
      rintro e w' ⟨rfl, rfl⟩
      have hk0 : 0 ≤ kd % 5 := Int.emod_nonneg _ (by omega)
      have hk1 : kd % 5 < 5 := Int.emod_lt_of_pos _ (by omega)
      obtain ⟨ki, hki⟩ : ∃ ki, ki = kd % 5 := ⟨_, rfl⟩
      have hpk : ∀ W, Calls Try.prog 22 #[.int .i64 kd, .int .i64 5] W fun e w' => e = .returned (.int .i64 ki) ∧ W = w' := fun W => by
        have := pick_calls kd 5 W hbd.1.1 hbd.1.2 (by omega) (by omega)
        rw [← hki] at this
        exact this
      rw [← hki] at hk0 hk1 ⊢
      have HPK := Lib.hid hpk
      clear hki hpk
      have key : ki = 0 ∨ ki = 1 ∨ ki = 2 ∨ ki = 3 ∨ ki = 4 := by omega
      rcases key with rfl | rfl | rfl | rfl | rfl
      · go_wp2_with fail
        have H5 := rnum_calls g l1 e1 wr _ HR.out
        have hK := kept_num l1 e1
        obtain ⟨⟨v, l2, e2⟩, hr2⟩ : ∃ r, r = rNum l1 e1 := ⟨_, rfl⟩
        rw [← hr2] at H5 hK
        simp only at H5 hK
        clear hr2
        refine H5.mono ?_
        clear H5
        rintro e w5 ⟨rfl, hR5, hf5⟩
        obtain ⟨z, hz⟩ : ∃ z, ((v : Int) == 0) = z := ⟨_, rfl⟩
        rw [hz] at hK
        have hz : ((v : Int) == 0) = z := hz
        have a5 := below_fr hbel hf5 (Nat.le_refl _) fun k hk h => by omega
        have HB5 := Lib.hid (HB.out.keep hf5 fun k _ h1 h2 => by omega)
        have hc5 : w5.cell? ⟨b, off + j * 2, none⟩ = some (.int .i64 kd) := (hf5.cell (p := ⟨b, off + j * 2, none⟩) (Nat.lt_of_lt_of_le hbb hbel.size) (by show ¬ (w2.heap.size ≤ b ∧ b < w3.heap.size); omega)).trans hc0
        have HR5 := Lib.hid hR5
        clear hR5 hf5 hc0 hc1
        have hlen := hK.1
        have hthree : (0 < e1 ∧ z = true ∧ l2 = l1 ∧ e2 = e1) ∨ (e1 = 0 ∧ 0 < e2 ∧ z = true) ∨ (e1 = 0 ∧ e2 = 0) := by
          rcases Nat.eq_zero_or_pos e1 with h | h
          · rcases Nat.eq_zero_or_pos e2 with h' | h'
            · exact Or.inr (Or.inr ⟨h, h'⟩)
            · exact Or.inr (Or.inl ⟨h, h', hK.2.2 h'⟩)
          · exact Or.inl ⟨h, hK.2.1 h⟩
        clear hK
        rcases hthree with ⟨h1, rfl, rfl, rfl⟩ | ⟨rfl, h1, rfl⟩ | ⟨rfl, rfl⟩
        · have hne : ((e2 : Int) != 0) = true := by rw [bne_iff_ne]; omega
          go_wp2_with (first
            | (go_at_call 26; refine (left_calls g _ _ _ _ HR5.out).mono ?_; rintro e w' ⟨rfl, rfl⟩)
            | (go_at_call 15; refine (err_calls g _ _ _ _ HR5.out).mono ?_; rintro e w' ⟨rfl, rfl⟩)
            | (go_at_call 22; refine (HPK.out _).mono ?_; rintro e w' ⟨rfl, rfl⟩))
          go_roundw
          case rel => exact ⟨j + 1, _, _, by omega, by go_num, HR5, HB5, a5⟩
          case measure => simp [intOf]; omega
        · have hne : ((e2 : Int) != 0) = true := by rw [bne_iff_ne]; omega
          go_wp2_with (first
            | (go_at_call 26; refine (left_calls g _ _ _ _ HR5.out).mono ?_; rintro e w' ⟨rfl, rfl⟩)
            | (go_at_call 15; refine (err_calls g _ _ _ _ HR5.out).mono ?_; rintro e w' ⟨rfl, rfl⟩)
            | (go_at_call 22; refine (HPK.out _).mono ?_; rintro e w' ⟨rfl, rfl⟩))
          go_roundw
          case rel => exact ⟨j + 1, _, _, by omega, by go_num, HR5, HB5, a5⟩
          case measure => simp [intOf]; omega
        · go_wp2_with (first
            | (go_at_call 26; refine (left_calls g _ _ _ _ HR5.out).mono ?_; rintro e w' ⟨rfl, rfl⟩)
            | (go_at_call 15; refine (err_calls g _ _ _ _ HR5.out).mono ?_; rintro e w' ⟨rfl, rfl⟩)
            | (go_at_call 22; refine (HPK.out _).mono ?_; rintro e w' ⟨rfl, rfl⟩))
          go_roundw
          case rel => exact ⟨j + 1, _, _, by omega, by go_num, HR5, HB5, a5⟩
          case measure => simp [intOf]; omega
      · obtain ⟨mm, hmm⟩ : ∃ mm : Nat, nm % 18446744073709551616 = (mm : Int) := Int.eq_ofNat_of_zero_le (Int.emod_nonneg _ (by omega))
        have hm1 : mm < 18446744073709551616 := by omega
        have hmw : IntKind.u64.wrap nm = (mm : Int) := by rw [← hmm]; simp [IntKind.wrap, IntKind.signed, IntKind.bits]
        have H5 := upto_calls g l1 e1 mm wr _ HR.out
        go_wp2_with fail
        have hK := kept_upto l1 e1 mm
        obtain ⟨⟨v, l2, e2⟩, hr2⟩ : ∃ r, r = rUpto l1 e1 mm := ⟨_, rfl⟩
        rw [← hr2] at H5 hK
        simp only at H5 hK
        clear hr2
        refine H5.mono ?_
        clear H5
        rintro e w5 ⟨rfl, hR5, hf5⟩
        obtain ⟨z, hz⟩ : ∃ z, ((v : Int) == 0) = z := ⟨_, rfl⟩
        rw [hz] at hK
        clear hmm hmw
        have hz : ((v : Int) == 0) = z := hz
        have a5 := below_fr hbel hf5 (Nat.le_refl _) fun k hk h => by omega
        have HB5 := Lib.hid (HB.out.keep hf5 fun k _ h1 h2 => by omega)
        have hc5 : w5.cell? ⟨b, off + j * 2, none⟩ = some (.int .i64 kd) := (hf5.cell (p := ⟨b, off + j * 2, none⟩) (Nat.lt_of_lt_of_le hbb hbel.size) (by show ¬ (w2.heap.size ≤ b ∧ b < w3.heap.size); omega)).trans hc0
        have HR5 := Lib.hid hR5
        clear hR5 hf5 hc0 hc1
        have hlen := hK.1
        have hthree : (0 < e1 ∧ z = true ∧ l2 = l1 ∧ e2 = e1) ∨ (e1 = 0 ∧ 0 < e2 ∧ z = true) ∨ (e1 = 0 ∧ e2 = 0) := by
          rcases Nat.eq_zero_or_pos e1 with h | h
          · rcases Nat.eq_zero_or_pos e2 with h' | h'
            · exact Or.inr (Or.inr ⟨h, h'⟩)
            · exact Or.inr (Or.inl ⟨h, h', hK.2.2 h'⟩)
          · exact Or.inl ⟨h, hK.2.1 h⟩
        clear hK
        rcases hthree with ⟨h1, rfl, rfl, rfl⟩ | ⟨rfl, h1, rfl⟩ | ⟨rfl, rfl⟩
        · have hne : ((e2 : Int) != 0) = true := by rw [bne_iff_ne]; omega
          go_wp2_with (first
            | (go_at_call 26; refine (left_calls g _ _ _ _ HR5.out).mono ?_; rintro e w' ⟨rfl, rfl⟩)
            | (go_at_call 15; refine (err_calls g _ _ _ _ HR5.out).mono ?_; rintro e w' ⟨rfl, rfl⟩)
            | (go_at_call 22; refine (HPK.out _).mono ?_; rintro e w' ⟨rfl, rfl⟩))
          go_roundw
          case rel => exact ⟨j + 1, _, _, by omega, by go_num, HR5, HB5, a5⟩
          case measure => simp [intOf]; omega
        · have hne : ((e2 : Int) != 0) = true := by rw [bne_iff_ne]; omega
          go_wp2_with (first
            | (go_at_call 26; refine (left_calls g _ _ _ _ HR5.out).mono ?_; rintro e w' ⟨rfl, rfl⟩)
            | (go_at_call 15; refine (err_calls g _ _ _ _ HR5.out).mono ?_; rintro e w' ⟨rfl, rfl⟩)
            | (go_at_call 22; refine (HPK.out _).mono ?_; rintro e w' ⟨rfl, rfl⟩))
          go_roundw
          case rel => exact ⟨j + 1, _, _, by omega, by go_num, HR5, HB5, a5⟩
          case measure => simp [intOf]; omega
        · go_wp2_with (first
            | (go_at_call 26; refine (left_calls g _ _ _ _ HR5.out).mono ?_; rintro e w' ⟨rfl, rfl⟩)
            | (go_at_call 15; refine (err_calls g _ _ _ _ HR5.out).mono ?_; rintro e w' ⟨rfl, rfl⟩)
            | (go_at_call 22; refine (HPK.out _).mono ?_; rintro e w' ⟨rfl, rfl⟩))
          go_roundw
          case rel => exact ⟨j + 1, _, _, by omega, by go_num, HR5, HB5, a5⟩
          case measure => simp [intOf]; omega
      · go_wp2_with fail
        have H5 := rblock_calls g l1 e1 wr _ HR.out
        have hK := kept_blk l1 e1
        obtain ⟨⟨v, l2, e2⟩, hr2⟩ : ∃ r, r = rBlk l1 e1 := ⟨_, rfl⟩
        rw [← hr2] at H5 hK
        simp only at H5 hK
        clear hr2
        refine H5.mono ?_
        clear H5
        rintro e w5 ⟨A5, c5, rfl, hown5, hR5, hf5⟩
        clear hown5
        obtain ⟨z, hz⟩ : ∃ z, ((v.length : Int) == 0) = z := ⟨_, rfl⟩
        rw [hz] at hK
        have hz : ((v.length : Int) == 0) = z := hz
        have a5 := below_fr hbel hf5 (Nat.le_refl _) fun k hk h => by omega
        have HB5 := Lib.hid (HB.out.keep hf5 fun k _ h1 h2 => by omega)
        have hc5 : w5.cell? ⟨b, off + j * 2, none⟩ = some (.int .i64 kd) := (hf5.cell (p := ⟨b, off + j * 2, none⟩) (Nat.lt_of_lt_of_le hbb hbel.size) (by show ¬ (w2.heap.size ≤ b ∧ b < w3.heap.size); omega)).trans hc0
        have HR5 := Lib.hid hR5
        clear hR5 hf5 hc0 hc1
        have hlen := hK.1
        have hthree : (0 < e1 ∧ z = true ∧ l2 = l1 ∧ e2 = e1) ∨ (e1 = 0 ∧ 0 < e2 ∧ z = true) ∨ (e1 = 0 ∧ e2 = 0) := by
          rcases Nat.eq_zero_or_pos e1 with h | h
          · rcases Nat.eq_zero_or_pos e2 with h' | h'
            · exact Or.inr (Or.inr ⟨h, h'⟩)
            · exact Or.inr (Or.inl ⟨h, h', hK.2.2 h'⟩)
          · exact Or.inl ⟨h, hK.2.1 h⟩
        clear hK
        rcases hthree with ⟨h1, rfl, rfl, rfl⟩ | ⟨rfl, h1, rfl⟩ | ⟨rfl, rfl⟩
        · have hne : ((e2 : Int) != 0) = true := by rw [bne_iff_ne]; omega
          go_wp2_with (first
            | (go_at_call 26; refine (left_calls g _ _ _ _ HR5.out).mono ?_; rintro e w' ⟨rfl, rfl⟩)
            | (go_at_call 15; refine (err_calls g _ _ _ _ HR5.out).mono ?_; rintro e w' ⟨rfl, rfl⟩)
            | (go_at_call 22; refine (HPK.out _).mono ?_; rintro e w' ⟨rfl, rfl⟩))
          go_roundw
          case rel => exact ⟨j + 1, _, _, by omega, by go_num, HR5, HB5, a5⟩
          case measure => simp [intOf]; omega
        · have hne : ((e2 : Int) != 0) = true := by rw [bne_iff_ne]; omega
          go_wp2_with (first
            | (go_at_call 26; refine (left_calls g _ _ _ _ HR5.out).mono ?_; rintro e w' ⟨rfl, rfl⟩)
            | (go_at_call 15; refine (err_calls g _ _ _ _ HR5.out).mono ?_; rintro e w' ⟨rfl, rfl⟩)
            | (go_at_call 22; refine (HPK.out _).mono ?_; rintro e w' ⟨rfl, rfl⟩))
          go_roundw
          case rel => exact ⟨j + 1, _, _, by omega, by go_num, HR5, HB5, a5⟩
          case measure => simp [intOf]; omega
        · go_wp2_with (first
            | (go_at_call 26; refine (left_calls g _ _ _ _ HR5.out).mono ?_; rintro e w' ⟨rfl, rfl⟩)
            | (go_at_call 15; refine (err_calls g _ _ _ _ HR5.out).mono ?_; rintro e w' ⟨rfl, rfl⟩)
            | (go_at_call 22; refine (HPK.out _).mono ?_; rintro e w' ⟨rfl, rfl⟩))
          go_roundw
          case rel => exact ⟨j + 1, _, _, by omega, by go_num, HR5, HB5, a5⟩
          case measure => simp [intOf]; omega
      · go_wp2_with fail
        have H5 := fix_calls g l1 e1 nm wr _ HR.out
        have hK := kept_fix l1 e1 nm.toNat
        obtain ⟨⟨v, l2, e2⟩, hr2⟩ : ∃ r, r = rFix l1 e1 nm.toNat := ⟨_, rfl⟩
        rw [← hr2] at H5 hK
        simp only at H5 hK
        clear hr2
        refine H5.mono ?_
        clear H5
        rintro e w5 ⟨A5, c5, rfl, hown5, hR5, hf5⟩
        clear hown5
        obtain ⟨z, hz⟩ : ∃ z, ((v.length : Int) == 0) = z := ⟨_, rfl⟩
        rw [hz] at hK
        have hz : ((v.length : Int) == 0) = z := hz
        have a5 := below_fr hbel hf5 (Nat.le_refl _) fun k hk h => by omega
        have HB5 := Lib.hid (HB.out.keep hf5 fun k _ h1 h2 => by omega)
        have hc5 : w5.cell? ⟨b, off + j * 2, none⟩ = some (.int .i64 kd) := (hf5.cell (p := ⟨b, off + j * 2, none⟩) (Nat.lt_of_lt_of_le hbb hbel.size) (by show ¬ (w2.heap.size ≤ b ∧ b < w3.heap.size); omega)).trans hc0
        have HR5 := Lib.hid hR5
        clear hR5 hf5 hc0 hc1
        have hlen := hK.1
        have hthree : (0 < e1 ∧ z = true ∧ l2 = l1 ∧ e2 = e1) ∨ (e1 = 0 ∧ 0 < e2 ∧ z = true) ∨ (e1 = 0 ∧ e2 = 0) := by
          rcases Nat.eq_zero_or_pos e1 with h | h
          · rcases Nat.eq_zero_or_pos e2 with h' | h'
            · exact Or.inr (Or.inr ⟨h, h'⟩)
            · exact Or.inr (Or.inl ⟨h, h', hK.2.2 h'⟩)
          · exact Or.inl ⟨h, hK.2.1 h⟩
        clear hK
        rcases hthree with ⟨h1, rfl, rfl, rfl⟩ | ⟨rfl, h1, rfl⟩ | ⟨rfl, rfl⟩
        · have hne : ((e2 : Int) != 0) = true := by rw [bne_iff_ne]; omega
          go_wp2_with (first
            | (go_at_call 26; refine (left_calls g _ _ _ _ HR5.out).mono ?_; rintro e w' ⟨rfl, rfl⟩)
            | (go_at_call 15; refine (err_calls g _ _ _ _ HR5.out).mono ?_; rintro e w' ⟨rfl, rfl⟩)
            | (go_at_call 22; refine (HPK.out _).mono ?_; rintro e w' ⟨rfl, rfl⟩))
          go_roundw
          case rel => exact ⟨j + 1, _, _, by omega, by go_num, HR5, HB5, a5⟩
          case measure => simp [intOf]; omega
        · have hne : ((e2 : Int) != 0) = true := by rw [bne_iff_ne]; omega
          go_wp2_with (first
            | (go_at_call 26; refine (left_calls g _ _ _ _ HR5.out).mono ?_; rintro e w' ⟨rfl, rfl⟩)
            | (go_at_call 15; refine (err_calls g _ _ _ _ HR5.out).mono ?_; rintro e w' ⟨rfl, rfl⟩)
            | (go_at_call 22; refine (HPK.out _).mono ?_; rintro e w' ⟨rfl, rfl⟩))
          go_roundw
          case rel => exact ⟨j + 1, _, _, by omega, by go_num, HR5, HB5, a5⟩
          case measure => simp [intOf]; omega
        · go_wp2_with (first
            | (go_at_call 26; refine (left_calls g _ _ _ _ HR5.out).mono ?_; rintro e w' ⟨rfl, rfl⟩)
            | (go_at_call 15; refine (err_calls g _ _ _ _ HR5.out).mono ?_; rintro e w' ⟨rfl, rfl⟩)
            | (go_at_call 22; refine (HPK.out _).mono ?_; rintro e w' ⟨rfl, rfl⟩))
          go_roundw
          case rel => exact ⟨j + 1, _, _, by omega, by go_num, HR5, HB5, a5⟩
          case measure => simp [intOf]; omega
      · go_wp2_with fail
        have H5 := end_calls g l1 e1 wr _ HR.out
        have hK := kept_end l1 e1
        obtain ⟨e2, hr2⟩ : ∃ r, r = rEnd l1 e1 := ⟨_, rfl⟩
        rw [← hr2] at H5 hK
        clear hr2
        refine H5.mono ?_
        clear H5
        rintro e w5 ⟨rfl, hR5, hf5⟩
        go_wp2_with fail
        refine (err_calls g _ _ _ _ hR5).mono ?_
        rintro e w' ⟨rfl, rfl⟩
        obtain ⟨l2, hl2⟩ : ∃ l2, l2 = l1 := ⟨_, rfl⟩
        have hK : Kept l1 e1 l2 e2 true := by rw [hl2]; exact hK
        rw [← hl2] at hR5
        obtain ⟨z, hz⟩ : ∃ z, z = true := ⟨_, rfl⟩
        rw [← hz] at hK
        clear hl2
        have a5 := below_fr hbel hf5 (Nat.le_refl _) fun k hk h => by omega
        have HB5 := Lib.hid (HB.out.keep hf5 fun k _ h1 h2 => by omega)
        have hc5 : w5.cell? ⟨b, off + j * 2, none⟩ = some (.int .i64 kd) := (hf5.cell (p := ⟨b, off + j * 2, none⟩) (Nat.lt_of_lt_of_le hbb hbel.size) (by show ¬ (w2.heap.size ≤ b ∧ b < w3.heap.size); omega)).trans hc0
        have HR5 := Lib.hid hR5
        clear hR5 hf5 hc0 hc1
        have hlen := hK.1
        have hthree : (0 < e1 ∧ z = true ∧ l2 = l1 ∧ e2 = e1) ∨ (e1 = 0 ∧ 0 < e2 ∧ z = true) ∨ (e1 = 0 ∧ e2 = 0) := by
          rcases Nat.eq_zero_or_pos e1 with h | h
          · rcases Nat.eq_zero_or_pos e2 with h' | h'
            · exact Or.inr (Or.inr ⟨h, h'⟩)
            · exact Or.inr (Or.inl ⟨h, h', hK.2.2 h'⟩)
          · exact Or.inl ⟨h, hK.2.1 h⟩
        clear hK
        rcases hthree with ⟨h1, rfl, rfl, rfl⟩ | ⟨rfl, h1, rfl⟩ | ⟨rfl, rfl⟩
        · have hne : ((e2 : Int) != 0) = true := by rw [bne_iff_ne]; omega
          go_wp2_with (first
            | (go_at_call 26; refine (left_calls g _ _ _ _ HR5.out).mono ?_; rintro e w' ⟨rfl, rfl⟩)
            | (go_at_call 15; refine (err_calls g _ _ _ _ HR5.out).mono ?_; rintro e w' ⟨rfl, rfl⟩)
            | (go_at_call 22; refine (HPK.out _).mono ?_; rintro e w' ⟨rfl, rfl⟩))
          go_roundw
          case rel => exact ⟨j + 1, _, _, by omega, by go_num, HR5, HB5, a5⟩
          case measure => simp [intOf]; omega
        · have hne : ((e2 : Int) != 0) = true := by rw [bne_iff_ne]; omega
          go_wp2_with (first
            | (go_at_call 26; refine (left_calls g _ _ _ _ HR5.out).mono ?_; rintro e w' ⟨rfl, rfl⟩)
            | (go_at_call 15; refine (err_calls g _ _ _ _ HR5.out).mono ?_; rintro e w' ⟨rfl, rfl⟩)
            | (go_at_call 22; refine (HPK.out _).mono ?_; rintro e w' ⟨rfl, rfl⟩))
          go_roundw
          case rel => exact ⟨j + 1, _, _, by omega, by go_num, HR5, HB5, a5⟩
          case measure => simp [intOf]; omega
        · go_wp2_with (first
            | (go_at_call 26; refine (left_calls g _ _ _ _ HR5.out).mono ?_; rintro e w' ⟨rfl, rfl⟩)
            | (go_at_call 15; refine (err_calls g _ _ _ _ HR5.out).mono ?_; rintro e w' ⟨rfl, rfl⟩)
            | (go_at_call 22; refine (HPK.out _).mono ?_; rintro e w' ⟨rfl, rfl⟩))
          go_roundw
          case rel => exact ⟨j + 1, _, _, by omega, by go_num, HR5, HB5, a5⟩
          case measure => simp [intOf]; omega
    · have hjl : j = rs.length := by omega
      subst hjl
      go_wp2_with (go_at_call 26; refine (left_calls g _ _ _ _ HR.out).mono ?_; rintro e w' ⟨rfl, rfl⟩)
      go_ret
      exact ⟨rfl, hbel⟩

set_option maxHeartbeats 1000000 in
theorem errs_out (w : World) (A : Option Addr) (l : List UInt8) (c : Nat) (B : Option Addr) (n d : Nat) (hm : c ≤ maxLen) (hc : l.length ≤ c) (hm2 : d ≤ maxLen) (hd' : n ≤ d) (h : 3000 < l.length ∨ (l.length ≤ 3000 ∧ 50 < n)) :
    Calls Try.prog 10 #[.slice A l.length c, .slice B n d] w fun e w' => e = .returned (.bool true) ∧ Below w.heap.size w w' := by
  unfold maxLen at hm hm2
  rcases h with h | ⟨h, h'⟩
  all_goals
    go_enter Try.func10, Try.ntmps10
    go_wp2_with (go_at_call 12; refine (lives1 _).mono ?_; rintro e w1 ⟨rfl, hb⟩)
    go_ret
    exact ⟨rfl, hb⟩

theorem octetErrs_walk (w : World) (A : Option Addr) (l : List UInt8) (c : Nat) (hr : Rd w (fun k => k < w.heap.size) A (bc l)) (hc : l.length ≤ c) (hm : c ≤ maxLen) (B : Option Addr) (rs : List (Int × Int)) (d : Nat) (hs : Rd w (fun k => k < w.heap.size) B (rc rs)) (hd' : rs.length ≤ d) (hm2 : d ≤ maxLen)
    (hb64 : ∀ (j : Nat) (h : j < rs.length), (-9223372036854775808 ≤ rs[j].1 ∧ rs[j].1 ≤ 9223372036854775807) ∧ (-9223372036854775808 ≤ rs[j].2 ∧ rs[j].2 ≤ 9223372036854775807)) :
    Calls Try.prog 10 #[.slice A l.length c, .slice B rs.length d] w fun e w' => e = .returned (.bool true) ∧ Below w.heap.size w w' := by
  by_cases h : l.length ≤ 3000 ∧ rs.length ≤ 50
  · exact errs_go w A l c hr hc B rs d hs hb64 h.1 h.2
  · exact errs_out w A l c B rs.length d hm hc hm2 hd' (by omega)
end Go.Proofs.Ytfkbmnlohaghbaa
