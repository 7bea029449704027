/- The walk of the law OctetOnly. No condition. -/
import Derived.Test.YtfkbmnlohaghbaaLives1
import Derived.Test.YtfkbmnlohaghbaaKit
import Derived.Test.YtfkbmnlohaghbaaRegion2
import Derived.Test.YtfkbmnlohaghbaaPlain3
namespace Go.Proofs.Ytfkbmnlohaghbaa
set_option linter.unusedVariables false
set_option linter.unusedSimpArgs false
open Go.RowKit

set_option maxHeartbeats 2000000 in
theorem only_go (w : World) (A : Option Addr) (l : List UInt8) (c : Nat) (hr : Rd w (fun k => k < w.heap.size) A (bc l)) (hc : l.length ≤ c) (n : Int) (hn : -9223372036854775808 ≤ n ∧ n ≤ 9223372036854775807)
    (h3 : l.length ≤ 3000) :
    Calls Try.prog 8 #[.slice A l.length c, .int .i64 n] w fun e w' => e = .returned (.bool true) ∧ Below w.heap.size w w' := by
  have H := Lib.hid hr
  clear hr
  go_enter Try.func8, Try.ntmps8
  go_wp2_with fail
  refine (lives1 _).mono ?_
  rintro e w1 ⟨rfl, hb1⟩
  go_wp2_with fail
  refine (own_calls A l c _ _ (H.out.below hb1) (by omega)).mono ?_
  rintro e w2 ⟨A2, c2, rfl, hown2, hb2⟩
  go_wp2_with fail
  refine (new_calls A2 l c2 _ _ (Rd.of_own hown2 (by omega)) (by omega)).mono ?_
  rintro e w3 ⟨g3, rfl, hR3, hb3⟩
  have a2 := below_then hb1 hb2 (Nat.le_refl _)
  have a3 := below_then a2 hb3 (Nat.le_refl _)
  have hL3 : Fr (fun _ => False) w3 w3 := Fr.refl _ _
  go_wp2_with fail
  refine (own_calls A l c _ _ (H.out.belowB a3 fun k hk => hk) (by omega)).mono ?_
  rintro e w4 ⟨A4, c4, rfl, hown4, hb4⟩
  go_wp2_with fail
  refine (new_calls A4 l c4 _ _ (Rd.of_own hown4 (by omega)) (by omega)).mono ?_
  rintro e w5 ⟨g5, rfl, hR5, hb5⟩
  have a4 := below_then a3 hb4 (Nat.le_refl _)
  have a5 := below_then a4 hb5 (Nat.le_refl _)
  go_wp2_with fail
  refine (own_calls A l c _ _ (H.out.belowB a5 fun k hk => hk) (by omega)).mono ?_
  rintro e w6 ⟨A6, c6, rfl, hown6, hb6⟩
  go_wp2_with fail
  refine (new_calls A6 l c6 _ _ (Rd.of_own hown6 (by omega)) (by omega)).mono ?_
  rintro e w7 ⟨g7, rfl, hR7, hb7⟩
  have a6 := below_then a5 hb6 (Nat.le_refl _)
  have a7 := below_then a6 hb7 (Nat.le_refl _)
  have hs2 := a2.size
  have hs23 := hb3.size
  have hs34 := hb4.size
  have hs45 := hb5.size
  have hs56 := hb6.size
  have hs67 := hb7.size
  have R3 := hR3.keep (Fr.new (S := fun _ => False) (((hb4.trans (hb5.mono hs34)).trans (hb6.mono (by omega))).trans (hb7.mono (by omega)))) fun _ _ _ h => h
  have R5 := hR5.keep (Fr.new (S := fun _ => False) (hb6.trans (hb7.mono hs56))) fun _ _ _ h => h
  clear hR3 hR5 hown2 hown4 hown6 hb1 hb2 hb3 hb4 hb5 hb6 hb7 a2 a3 a4 a5 a6
  have HL := Lib.hid ((H.out.belowB a7 fun k hk => hk))
  clear H
  go_wp2_with fail
  have H8 := rnum_calls g3 l 0 w7 _ R3
  obtain ⟨⟨v, l1, e1⟩, hr1⟩ : ∃ r, r = rNum l 0 := ⟨_, rfl⟩
  rw [← hr1] at H8
  simp only at H8
  refine H8.mono ?_
  clear H8
  rintro e w8 ⟨rfl, hR8, hf8⟩
  have R5 := R5.keep hf8 fun k _ h1 h2 => by omega
  have R7 := hR7.keep hf8 fun k _ h1 h2 => by omega
  have a8 : Below w.heap.size w w8 := below_fr a7 hf8 (Nat.le_refl _) fun k hk h => by omega
  have HL8 := Lib.hid (HL.out.keep hf8 fun k _ h1 h2 => by omega)
  have hsz8 := hf8.size
  clear hR7 R3 hf8 a7 HL
  go_wp2_with fail
  refine region_to (T := NewMem) NewMem.trans NewMem.refl (fun vs W => vs 16 = .bool false) (by kernel_rfl) (by kernel_rfl) (by kernel_rfl) ?_ ?_
  · by_cases he : e1 = 0
    · obtain ⟨hl, hv⟩ := rnum_ok hr1.symm he
      have hb1 : ((e1 : Int) == 0) = true := by rw [beq_iff_eq]; omega
      have hk := num_length v
      have hn8 := nlen_le8 hv
      obtain ⟨k, hk'⟩ : ∃ k, k = (num v).length := ⟨_, rfl⟩
      have hlk : l.length = k + l1.length := by rw [hl, List.length_append, ← hk']
      have hsub : (l.length : Int) - (l1.length : Int) = (k : Int) := by omega
      have htk : l.take k = num v := by rw [hl, hk', List.take_append_of_le_length (Nat.le_refl _), List.take_length]
      obtain ⟨q, hq⟩ : ∃ q, q = num v := ⟨_, rfl⟩
      rw [← hq] at htk hk'
      have hqs : (str q).toList = q := str_toList q
      have HQ := Lib.hid hq
      have HK := Lib.hid hk'
      have hwk : IntKind.i64.wrap (k : Int) = (k : Int) := IntWalk.i64_in _ ⟨by omega, by omega⟩
      have hk3 : k ≤ 3000 := by omega
      have hkc : k ≤ c := by omega
      clear hl hr1 hk hq hk'
      refine ⟨[.is (.pointer (some ⟨g3, 0, none⟩)), .is (.int .i64 (e1 : Int)), .is (.bool true), .is (.bool true), .is (.int .u64 (v : Int)), .bytes (fun _ => True) q, .is (.string (str q)), .is (.slice A l.length c), .is (.slice A l.length c), .is (.int .i64 (l.length : Int)), .is (.pointer (some ⟨g3, 0, none⟩)), .is (.int .i64 (l1.length : Int)), .is (.int .i64 (k : Int)), .is (.slice A k c), .is (.string (str q)), .is (.bool false), .is (.bool false)], ⟨?_, ?_, ?_, ?_, ?_, ?_, ?_, ?_, ?_, ?_, ?_, ?_, ?_, ?_, ?_, ?_, ?_, trivial⟩, fun vs W _ h => h 16 rfl⟩
      · refine owes_plain rfl fun a W hT hf hd => ?_
        have e5 := hf 5 rfl
        exact step_val (w' := W) (by simp only [execOp]; go_simp) ⟨NewMem.refl _, rfl⟩
      · refine owes_plain rfl fun a W hT hf hd => ?_
        obtain ⟨v0, e0, rfl⟩ := hd 0 rfl
        refine step_call (w' := W) (f := 15) (args := #[.pointer (some ⟨g3, 0, none⟩)]) (by simp only [execOp]; go_simp) ?_
        refine (err_calls g3 l1 e1 W _ (hR8.drew.below hT)).mono ?_
        rintro e w' ⟨rfl, rfl⟩
        exact ⟨_, rfl, NewMem.refl _, rfl⟩
      · refine owes_plain rfl fun a W hT hf hd => ?_
        obtain ⟨v1, e1, rfl⟩ := hd 1 rfl
        exact step_val (w' := W) (by simp only [execOp]; go_simp) ⟨NewMem.refl _, rfl⟩
      · refine owes_plain rfl fun a W hT hf hd => ?_
        obtain ⟨v2, e2, rfl⟩ := hd 2 rfl
        exact step_val (w' := W) (by simp only [execOp]; go_simp) ⟨NewMem.refl _, rfl⟩
      · refine owes_if rfl rfl (fun v w h => h) fun a W hT hf hd => ?_
        have e8 := hf 8 rfl
        exact step_val (w' := W) (by simp only [execOp]; go_simp) ⟨NewMem.refl _, rfl⟩
      · refine owes_if rfl rfl (fun v w h => h) fun a W hT hf hd => ?_
        obtain ⟨v4, e4, rfl⟩ := hd 4 rfl
        refine step_call (w' := W) (f := 13) (args := #[.slice none 0 0, .int .u64 (v : Int)]) (by simp only [execOp]; go_simp) ?_
        have HN := number_calls none [] 0 v W (fun _ => True) (Rd.nil _ _ _) (by simp) hv
        rw [List.nil_append, ← HQ.out] at HN
        refine HN.mono ?_
        rintro e w' ⟨A9, c9, rfl, hown, hb⟩
        exact ⟨_, rfl, hb, A9, c9, rfl, (Rd.of_own hown (by omega)).mono fun _ _ _ => trivial, by obtain ⟨_, _, e1, e2, _⟩ := own_shape hown; injection e1 with _ _ e1; rw [e1]; exact e2⟩
      · refine owes_if rfl rfl (fun v w h => h) fun a W hT hf hd => ?_
        obtain ⟨v5, e5, A1, c1, rfl, hr1, hc1⟩ := hd 5 rfl
        have hcv := conv_str c1 hr1
        exact step_val (w' := W) (by simp only [execOp]; go_simp) ⟨NewMem.refl _, rfl⟩
      · refine owes_if rfl rfl (fun v w h => h) fun a W hT hf hd => ?_
        have e0 := hf 0 rfl
        exact step_val (w' := W) (by simp only [execOp]; go_simp) ⟨NewMem.refl _, rfl⟩
      · refine owes_if rfl rfl (fun v w h => h) fun a W hT hf hd => ?_
        have e0 := hf 0 rfl
        exact step_val (w' := W) (by simp only [execOp]; go_simp) ⟨NewMem.refl _, rfl⟩
      · refine owes_if rfl rfl (fun v w h => h) fun a W hT hf hd => ?_
        obtain ⟨v8, e8, rfl⟩ := hd 8 rfl
        exact step_val (w' := W) (by simp only [execOp]; go_simp) ⟨NewMem.refl _, rfl⟩
      · refine owes_if rfl rfl (fun v w h => h) fun a W hT hf hd => ?_
        have e5 := hf 5 rfl
        exact step_val (w' := W) (by simp only [execOp]; go_simp) ⟨NewMem.refl _, rfl⟩
      · refine owes_if rfl rfl (fun v w h => h) fun a W hT hf hd => ?_
        obtain ⟨v10, e10, rfl⟩ := hd 10 rfl
        refine step_call (w' := W) (f := 26) (args := #[.pointer (some ⟨g3, 0, none⟩)]) (by simp only [execOp]; go_simp) ?_
        refine (left_calls g3 l1 e1 W _ (hR8.drew.below hT)).mono ?_
        rintro e w' ⟨rfl, rfl⟩
        exact ⟨_, rfl, NewMem.refl _, rfl⟩
      · refine owes_if rfl rfl (fun v w h => h) fun a W hT hf hd => ?_
        obtain ⟨v9, e9, rfl⟩ := hd 9 rfl
        obtain ⟨v11, e11, rfl⟩ := hd 11 rfl
        exact step_val (w' := W) (by simp only [execOp]; go_simp) ⟨NewMem.refl _, rfl⟩
      · refine owes_if rfl rfl (fun v w h => h) fun a W hT hf hd => ?_
        obtain ⟨v7, e7, rfl⟩ := hd 7 rfl
        obtain ⟨v12, e12, rfl⟩ := hd 12 rfl
        exact step_val (w' := W) (by simp only [execOp]; go_simp) ⟨NewMem.refl _, rfl⟩
      · refine owes_if rfl rfl (fun v w h => h) fun a W hT hf hd => ?_
        obtain ⟨v13, e13, rfl⟩ := hd 13 rfl
        have hr13 := HL8.out.take k
        rw [← bc_take, htk] at hr13
        have hcv := conv_str c (hr13.drew.below hT)
        rw [← HK.out] at hcv
        exact step_val (w' := W) (by simp only [execOp]; go_simp) ⟨NewMem.refl _, rfl⟩
      · refine owes_if rfl rfl (fun v w h => h) fun a W hT hf hd => ?_
        obtain ⟨v6, e6, rfl⟩ := hd 6 rfl
        obtain ⟨v14, e14, rfl⟩ := hd 14 rfl
        exact step_val (w' := W) (by simp only [execOp]; go_simp) ⟨NewMem.refl _, rfl⟩
      · refine owes_plain rfl fun a W hT hf hd => ?_
        obtain ⟨v3, e3, rfl⟩ := hd 3 rfl
        obtain ⟨v15, e15, rfl⟩ := hd 15 rfl
        exact step_val (w' := W) (by simp only [execOp]; go_simp) ⟨NewMem.refl _, rfl⟩
    · have hb1 : ((e1 : Int) == 0) = false := by rw [beq_eq_false_iff_ne]; omega
      refine ⟨[.is (.pointer (some ⟨g3, 0, none⟩)), .is (.int .i64 (e1 : Int)), .is (.bool false), .is (.bool false), .any, .any, .any, .any, .any, .any, .any, .any, .any, .any, .any, .any, .is (.bool false)], ⟨?_, ?_, ?_, ?_, ?_, ?_, ?_, ?_, ?_, ?_, ?_, ?_, ?_, ?_, ?_, ?_, ?_, trivial⟩, fun vs W _ h => h 16 rfl⟩
      · refine owes_plain rfl fun a W hT hf hd => ?_
        have e5 := hf 5 rfl
        exact step_val (w' := W) (by simp only [execOp]; go_simp) ⟨NewMem.refl _, rfl⟩
      · refine owes_plain rfl fun a W hT hf hd => ?_
        obtain ⟨v0, e0, rfl⟩ := hd 0 rfl
        refine step_call (w' := W) (f := 15) (args := #[.pointer (some ⟨g3, 0, none⟩)]) (by simp only [execOp]; go_simp) ?_
        refine (err_calls g3 l1 e1 W _ (hR8.drew.below hT)).mono ?_
        rintro e w' ⟨rfl, rfl⟩
        exact ⟨_, rfl, NewMem.refl _, rfl⟩
      · refine owes_plain rfl fun a W hT hf hd => ?_
        obtain ⟨v1, e1, rfl⟩ := hd 1 rfl
        exact step_val (w' := W) (by simp only [execOp]; go_simp) ⟨NewMem.refl _, rfl⟩
      · refine owes_plain rfl fun a W hT hf hd => ?_
        obtain ⟨v2, e2, rfl⟩ := hd 2 rfl
        exact step_val (w' := W) (by simp only [execOp]; go_simp) ⟨NewMem.refl _, rfl⟩
      iterate 12 (refine owes_not rfl rfl (fun v w h => by rw [show v = .bool false from h]; simp) fun _ => trivial)
      · refine owes_plain rfl fun a W hT hf hd => ?_
        obtain ⟨v3, e3, rfl⟩ := hd 3 rfl
        exact step_val (w' := W) (by simp only [execOp]; go_simp) ⟨NewMem.refl _, rfl⟩
  · intro vs w9 hT9 h16
    simp only [laid, Nat.reduceAdd, h16]
    have R5 := R5.drew.below hT9
    have R7 := R7.drew.below hT9
    have a9 : Below w.heap.size w w9 := below_then (w1 := w8.drew) a8.drew hT9 (Nat.le_refl _)
    have HL9 := Lib.hid (HL8.out.drew.below hT9)
    have hsz9 : w8.heap.size ≤ w9.heap.size := hT9.size
    clear hT9 a8 HL8 hR8 h16
    go_wp2_with fail
    have H10 := rblock_calls g5 l 0 w9 _ R5
    have hbl := rblk_len l 0
    obtain ⟨⟨b, l2, e2⟩, hr2⟩ : ∃ r, r = rBlk l 0 := ⟨_, rfl⟩
    rw [← hr2] at H10 hbl
    simp only at H10 hbl
    refine H10.mono ?_
    clear H10
    rintro e w10 ⟨A10, c10, rfl, hown10, hR10, hf10⟩
    have R7 := R7.keep hf10 fun k _ h1 h2 => by omega
    have a10 : Below w.heap.size w w10 := below_fr a9 hf10 (Nat.le_refl _) fun k hk h => by omega
    have HL10 := Lib.hid (HL9.out.keep hf10 fun k _ h1 h2 => by omega)
    have hsz10 := hf10.size
    have hm10 := Rd.of_own hown10 (by omega)
    clear a9 HL9 hf10 R5 hown10
    go_wp2_with fail
    have H11 := block_calls none A10 [] b 0 c10 w10 (fun _ => True) _ (Rd.nil _ _ _) hm10 (by simp) (by omega)
    have hnb := num_length b.length
    have hnb8 := nlen_le8 (x := b.length) (by omega)
    obtain ⟨u, hu⟩ : ∃ u, u = [] ++ num b.length ++ b := ⟨_, rfl⟩
    rw [← hu] at H11
    refine H11.mono ?_
    clear H11
    rintro e w11 ⟨A11, c11, rfl, hown11, hb11⟩
    have R7 := R7.below hb11
    have hR11 := hR10.below hb11
    have a11 := below_then a10 hb11 (Nat.le_refl _)
    have HL11 := Lib.hid (HL10.out.below hb11)
    have HU11 := Lib.hid ((Rd.of_own hown11 (by omega)).mono (F' := fun _ => True) fun _ _ _ => trivial)
    have hsz11 := hb11.size
    have HUE := Lib.hid hu
    have hul : u.length ≤ 3009 := by rw [hu]; simp; omega
    clear hown11 hb11 hm10 hR10 a10 HL10 hu hnb hnb8
    go_wp2_with fail
    refine region_to (T := NewMem) NewMem.trans NewMem.refl (fun vs W => vs 19 = .bool false) (by kernel_rfl) (by kernel_rfl) (by kernel_rfl) ?_ ?_
    · by_cases he : e2 = 0
      · have hl := rblk_ok hr2.symm he
        have hb1 : ((e2 : Int) == 0) = true := by rw [beq_iff_eq]; omega
        obtain ⟨k, hk'⟩ : ∃ k, k = u.length := ⟨_, rfl⟩
        have hl' : l = u ++ l2 := by rw [hl, HUE.out]; simp
        have hlk : l.length = k + l2.length := by rw [hl', List.length_append, ← hk']
        have hsub : (l.length : Int) - (l2.length : Int) = (k : Int) := by omega
        have htk : l.take k = u := by rw [hl', hk', List.take_append_of_le_length (Nat.le_refl _), List.take_length]
        have hqs : (str u).toList = u := str_toList u
        have HK := Lib.hid hk'
        have hwk : IntKind.i64.wrap (k : Int) = (k : Int) := IntWalk.i64_in _ ⟨by omega, by omega⟩
        have hk3 : k ≤ 3009 := by omega
        have hkc : k ≤ c := by omega
        clear hl hl' hr2 hk' hr1
        refine ⟨[.is (.pointer (some ⟨g5, 0, none⟩)), .is (.int .i64 (e2 : Int)), .is (.bool true), .is (.bool true), .is (.int .i64 0), .is (.bool false), .is (.bool false), .is (.slice A11 u.length c11), .is (.string (str u)), .is (.slice A l.length c), .is (.slice A l.length c), .is (.int .i64 (l.length : Int)), .is (.pointer (some ⟨g5, 0, none⟩)), .is (.int .i64 (l2.length : Int)), .is (.int .i64 (k : Int)), .is (.slice A k c), .is (.string (str u)), .is (.bool false), .is (.bool false), .is (.bool false)], ⟨?_, ?_, ?_, ?_, ?_, ?_, ?_, ?_, ?_, ?_, ?_, ?_, ?_, ?_, ?_, ?_, ?_, ?_, ?_, ?_, trivial⟩, fun vs W _ h => h 19 rfl⟩
        · refine owes_plain rfl fun a W hT hf hd => ?_
          have e6 := hf 6 rfl
          exact step_val (w' := W) (by simp only [execOp]; go_simp) ⟨NewMem.refl _, rfl⟩
        · refine owes_plain rfl fun a W hT hf hd => ?_
          obtain ⟨v0, e0, rfl⟩ := hd 0 rfl
          refine step_call (w' := W) (f := 15) (args := #[.pointer (some ⟨g5, 0, none⟩)]) (by simp only [execOp]; go_simp) ?_
          refine (err_calls g5 l2 e2 W _ (hR11.drew.below hT)).mono ?_
          rintro e w' ⟨rfl, rfl⟩
          exact ⟨_, rfl, NewMem.refl _, rfl⟩
        · refine owes_plain rfl fun a W hT hf hd => ?_
          obtain ⟨v1, e1, rfl⟩ := hd 1 rfl
          exact step_val (w' := W) (by simp only [execOp]; go_simp) ⟨NewMem.refl _, rfl⟩
        · refine owes_plain rfl fun a W hT hf hd => ?_
          obtain ⟨v2, e2, rfl⟩ := hd 2 rfl
          exact step_val (w' := W) (by simp only [execOp]; go_simp) ⟨NewMem.refl _, rfl⟩
        · refine owes_if rfl rfl (fun v w h => h) fun a W hT hf hd => ?_
          have e11 := hf 11 rfl
          exact step_val (w' := W) (by simp only [execOp]; go_simp) ⟨NewMem.refl _, rfl⟩
        · refine owes_if rfl rfl (fun v w h => h) fun a W hT hf hd => ?_
          obtain ⟨v4, e4, rfl⟩ := hd 4 rfl
          exact step_val (w' := W) (by simp only [execOp]; go_simp) ⟨NewMem.refl _, rfl⟩
        · refine owes_if rfl rfl (fun v w h => h) fun a W hT hf hd => ?_
          obtain ⟨v5, e5, rfl⟩ := hd 5 rfl
          exact step_val (w' := W) (by simp only [execOp]; go_simp) ⟨NewMem.refl _, rfl⟩
        · refine owes_if rfl rfl (fun v w h => h) fun a W hT hf hd => ?_
          have e10 := hf 10 rfl
          exact step_val (w' := W) (by simp only [execOp]; go_simp) ⟨NewMem.refl _, rfl⟩
        · refine owes_if rfl rfl (fun v w h => h) fun a W hT hf hd => ?_
          obtain ⟨v7, e7, rfl⟩ := hd 7 rfl
          have hcv := conv_str c11 (HU11.out.drew.below hT)
          exact step_val (w' := W) (by simp only [execOp]; go_simp) ⟨NewMem.refl _, rfl⟩
        · refine owes_if rfl rfl (fun v w h => h) fun a W hT hf hd => ?_
          have e0 := hf 0 rfl
          exact step_val (w' := W) (by simp only [execOp]; go_simp) ⟨NewMem.refl _, rfl⟩
        · refine owes_if rfl rfl (fun v w h => h) fun a W hT hf hd => ?_
          have e0 := hf 0 rfl
          exact step_val (w' := W) (by simp only [execOp]; go_simp) ⟨NewMem.refl _, rfl⟩
        · refine owes_if rfl rfl (fun v w h => h) fun a W hT hf hd => ?_
          obtain ⟨v10, e10, rfl⟩ := hd 10 rfl
          exact step_val (w' := W) (by simp only [execOp]; go_simp) ⟨NewMem.refl _, rfl⟩
        · refine owes_if rfl rfl (fun v w h => h) fun a W hT hf hd => ?_
          have e6 := hf 6 rfl
          exact step_val (w' := W) (by simp only [execOp]; go_simp) ⟨NewMem.refl _, rfl⟩
        · refine owes_if rfl rfl (fun v w h => h) fun a W hT hf hd => ?_
          obtain ⟨v12, e12, rfl⟩ := hd 12 rfl
          refine step_call (w' := W) (f := 26) (args := #[.pointer (some ⟨g5, 0, none⟩)]) (by simp only [execOp]; go_simp) ?_
          refine (left_calls g5 l2 e2 W _ (hR11.drew.below hT)).mono ?_
          rintro e w' ⟨rfl, rfl⟩
          exact ⟨_, rfl, NewMem.refl _, rfl⟩
        · refine owes_if rfl rfl (fun v w h => h) fun a W hT hf hd => ?_
          obtain ⟨v11, e11, rfl⟩ := hd 11 rfl
          obtain ⟨v13, e13, rfl⟩ := hd 13 rfl
          exact step_val (w' := W) (by simp only [execOp]; go_simp) ⟨NewMem.refl _, rfl⟩
        · refine owes_if rfl rfl (fun v w h => h) fun a W hT hf hd => ?_
          obtain ⟨v9, e9, rfl⟩ := hd 9 rfl
          obtain ⟨v14, e14, rfl⟩ := hd 14 rfl
          exact step_val (w' := W) (by simp only [execOp]; go_simp) ⟨NewMem.refl _, rfl⟩
        · refine owes_if rfl rfl (fun v w h => h) fun a W hT hf hd => ?_
          obtain ⟨v15, e15, rfl⟩ := hd 15 rfl
          have hr15 := HL11.out.take k
          rw [← bc_take, htk] at hr15
          have hcv := conv_str c (hr15.drew.below hT)
          rw [← HK.out] at hcv
          exact step_val (w' := W) (by simp only [execOp]; go_simp) ⟨NewMem.refl _, rfl⟩
        · refine owes_if rfl rfl (fun v w h => h) fun a W hT hf hd => ?_
          obtain ⟨v8, e8, rfl⟩ := hd 8 rfl
          obtain ⟨v16, e16, rfl⟩ := hd 16 rfl
          exact step_val (w' := W) (by simp only [execOp]; go_simp) ⟨NewMem.refl _, rfl⟩
        · refine owes_if rfl rfl (fun v w h => h) fun a W hT hf hd => ?_
          obtain ⟨v6, e6, rfl⟩ := hd 6 rfl
          obtain ⟨v17, e17, rfl⟩ := hd 17 rfl
          exact step_val (w' := W) (by simp only [execOp]; go_simp) ⟨NewMem.refl _, rfl⟩
        · refine owes_plain rfl fun a W hT hf hd => ?_
          obtain ⟨v3, e3, rfl⟩ := hd 3 rfl
          obtain ⟨v18, e18, rfl⟩ := hd 18 rfl
          exact step_val (w' := W) (by simp only [execOp]; go_simp) ⟨NewMem.refl _, rfl⟩
      · have hb1 : ((e2 : Int) == 0) = false := by rw [beq_eq_false_iff_ne]; omega
        refine ⟨[.is (.pointer (some ⟨g5, 0, none⟩)), .is (.int .i64 (e2 : Int)), .is (.bool false), .is (.bool false), .any, .any, .is undef, .any, .any, .any, .any, .any, .any, .any, .any, .any, .any, .any, .any, .is (.bool false)], ⟨?_, ?_, ?_, ?_, ?_, ?_, ?_, ?_, ?_, ?_, ?_, ?_, ?_, ?_, ?_, ?_, ?_, ?_, ?_, ?_, trivial⟩, fun vs W _ h => h 19 rfl⟩
        · refine owes_plain rfl fun a W hT hf hd => ?_
          have e6 := hf 6 rfl
          exact step_val (w' := W) (by simp only [execOp]; go_simp) ⟨NewMem.refl _, rfl⟩
        · refine owes_plain rfl fun a W hT hf hd => ?_
          obtain ⟨v0, e0, rfl⟩ := hd 0 rfl
          refine step_call (w' := W) (f := 15) (args := #[.pointer (some ⟨g5, 0, none⟩)]) (by simp only [execOp]; go_simp) ?_
          refine (err_calls g5 l2 e2 W _ (hR11.drew.below hT)).mono ?_
          rintro e w' ⟨rfl, rfl⟩
          exact ⟨_, rfl, NewMem.refl _, rfl⟩
        · refine owes_plain rfl fun a W hT hf hd => ?_
          obtain ⟨v1, e1, rfl⟩ := hd 1 rfl
          exact step_val (w' := W) (by simp only [execOp]; go_simp) ⟨NewMem.refl _, rfl⟩
        · refine owes_plain rfl fun a W hT hf hd => ?_
          obtain ⟨v2, e2, rfl⟩ := hd 2 rfl
          exact step_val (w' := W) (by simp only [execOp]; go_simp) ⟨NewMem.refl _, rfl⟩
        iterate 2 (refine owes_not rfl rfl (fun v w h => by rw [show v = .bool false from h]; simp) fun _ => trivial)
        refine owes_not rfl rfl (fun v w h => by rw [show v = .bool false from h]; simp) fun _ => rfl
        iterate 11 (refine owes_not rfl rfl (fun v w h => by rw [show v = undef from h]; simp [undef]) fun _ => trivial)
        refine owes_not rfl rfl (fun v w h => by rw [show v = .bool false from h]; simp) fun _ => trivial
        · refine owes_plain rfl fun a W hT hf hd => ?_
          obtain ⟨v3, e3, rfl⟩ := hd 3 rfl
          exact step_val (w' := W) (by simp only [execOp]; go_simp) ⟨NewMem.refl _, rfl⟩
    · intro vs w12 hT12 h19
      simp only [laid, Nat.reduceAdd, h19]
      have R7 := R7.drew.below hT12
      have a12 : Below w.heap.size w w12 := below_then (w1 := w11.drew) a11.drew hT12 (Nat.le_refl _)
      have HL12 := Lib.hid (HL11.out.drew.below hT12)
      have hsz12 : w11.heap.size ≤ w12.heap.size := hT12.size
      clear hT12 a11 HL11 HU11 hR11 h19 hr1 hr2
      obtain ⟨m, hm⟩ : ∃ m, m = n.toNat := ⟨_, rfl⟩
      have hmx : max n 0 = (m : Int) := by omega
      have hmy : (if 0 < n then n else 0) = (m : Int) := by split <;> omega
      have H13 := fix_calls g7 l 0 n w12 _ R7
      rw [← hm] at H13
      have hmn : (m : Int) ≤ 9223372036854775807 := by omega
      clear hm
      clear R7
      go_wp2_with fail
      refine H13.mono ?_
      clear H13
      obtain ⟨⟨x, l3, e3⟩, hr3⟩ : ∃ r, r = rFix l 0 m := ⟨_, rfl⟩
      rw [← hr3]
      simp only
      rintro e w13 ⟨A13, c13, rfl, hown13, hR13, hf13⟩
      have a13 : Below w.heap.size w w13 := below_fr a12 hf13 (Nat.le_refl _) fun k hk h => by omega
      have HL13 := Lib.hid (HL12.out.keep hf13 fun k _ h1 h2 => by omega)
      have HX13 := Lib.hid ((Rd.of_own hown13 (by omega)).mono (F' := fun _ => True) fun _ _ _ => trivial)
      clear a12 HL12 hf13 hown13
      go_wp2_with fail
      refine region_last_to (T := NewMem) NewMem.trans NewMem.refl 22 (.bool true) (by kernel_rfl) (by kernel_rfl) (by kernel_rfl) 4 (by kernel_rfl) ?_ ?_
      · by_cases hlm : l.length < m
        · have he : e3 = 5 := by unfold rFix at hr3; rw [if_neg (by omega), if_pos hlm] at hr3; injection hr3 with _ h; injection h
          have hb1 : ((e3 : Int) == 0) = false := by rw [he]; rfl
          have hb2 : ((e3 : Int) != 0) = true := by rw [he]; rfl
          have hle : decide ((m : Int) ≤ (l.length : Int)) = false := by rw [decide_eq_false_iff_not]; omega
          clear hr3
          refine ⟨[.is (.pointer (some ⟨g7, 0, none⟩)), .is (.int .i64 (e3 : Int)), .is (.bool false), .is (.int .i64 (m : Int)), .is (.slice A l.length c), .is (.int .i64 (l.length : Int)), .is (.bool false), .is (.bool true), .is (.bool true), .is (.pointer (some ⟨g7, 0, none⟩)), .is (.int .i64 (e3 : Int)), .is (.bool true), .is (.bool true), .any, .any, .any, .any, .any, .any, .any, .is (.bool true), .is (.bool true), .is (.bool true)], ⟨?_, ?_, ?_, ?_, ?_, ?_, ?_, ?_, ?_, ?_, ?_, ?_, ?_, ?_, ?_, ?_, ?_, ?_, ?_, ?_, ?_, ?_, ?_, trivial⟩, fun _ _ _ h => h⟩
          · refine owes_plain rfl fun a W hT hf hd => ?_
            have e7 := hf 7 rfl
            exact step_val (w' := W) (by simp only [execOp]; go_simp) ⟨NewMem.refl _, rfl⟩
          · refine owes_plain rfl fun a W hT hf hd => ?_
            obtain ⟨v0, e0, rfl⟩ := hd 0 rfl
            refine step_call (w' := W) (f := 15) (args := #[.pointer (some ⟨g7, 0, none⟩)]) (by simp only [execOp]; go_simp) ?_
            refine (err_calls g7 l3 e3 W _ (hR13.drew.below hT)).mono ?_
            rintro e w' ⟨rfl, rfl⟩
            exact ⟨_, rfl, NewMem.refl _, rfl⟩
          · refine owes_plain rfl fun a W hT hf hd => ?_
            obtain ⟨v1, e1, rfl⟩ := hd 1 rfl
            exact step_val (w' := W) (by simp only [execOp]; go_simp) ⟨NewMem.refl _, rfl⟩
          · refine owes_plain rfl fun a W hT hf hd => ?_
            have e12 := hf 12 rfl
            exact step_val (w' := W) (by simp only [execOp]; go_simp) ⟨NewMem.refl _, rfl⟩
          · refine owes_plain rfl fun a W hT hf hd => ?_
            have e0 := hf 0 rfl
            exact step_val (w' := W) (by simp only [execOp]; go_simp) ⟨NewMem.refl _, rfl⟩
          · refine owes_plain rfl fun a W hT hf hd => ?_
            obtain ⟨v4, e4, rfl⟩ := hd 4 rfl
            exact step_val (w' := W) (by simp only [execOp]; go_simp) ⟨NewMem.refl _, rfl⟩
          · refine owes_plain rfl fun a W hT hf hd => ?_
            obtain ⟨v3, e3, rfl⟩ := hd 3 rfl
            obtain ⟨v5, e5, rfl⟩ := hd 5 rfl
            exact step_val (w' := W) (by simp only [execOp]; go_simp) ⟨NewMem.refl _, rfl⟩
          · refine owes_plain rfl fun a W hT hf hd => ?_
            obtain ⟨v2, e2, rfl⟩ := hd 2 rfl
            obtain ⟨v6, e6, rfl⟩ := hd 6 rfl
            exact step_val (w' := W) (by simp only [execOp]; go_simp) ⟨NewMem.refl _, rfl⟩
          · refine owes_plain rfl fun a W hT hf hd => ?_
            obtain ⟨v7, e7, rfl⟩ := hd 7 rfl
            exact step_val (w' := W) (by simp only [execOp]; go_simp) ⟨NewMem.refl _, rfl⟩
          · refine owes_if rfl rfl (fun v w h => h) fun a W hT hf hd => ?_
            have e7 := hf 7 rfl
            exact step_val (w' := W) (by simp only [execOp]; go_simp) ⟨NewMem.refl _, rfl⟩
          · refine owes_if rfl rfl (fun v w h => h) fun a W hT hf hd => ?_
            obtain ⟨v9, e9, rfl⟩ := hd 9 rfl
            refine step_call (w' := W) (f := 15) (args := #[.pointer (some ⟨g7, 0, none⟩)]) (by simp only [execOp]; go_simp) ?_
            refine (err_calls g7 l3 e3 W _ (hR13.drew.below hT)).mono ?_
            rintro e w' ⟨rfl, rfl⟩
            exact ⟨_, rfl, NewMem.refl _, rfl⟩
          · refine owes_if rfl rfl (fun v w h => h) fun a W hT hf hd => ?_
            obtain ⟨v10, e10, rfl⟩ := hd 10 rfl
            exact step_val (w' := W) (by simp only [execOp]; go_simp) ⟨NewMem.refl _, rfl⟩
          · refine owes_if rfl rfl (fun v w h => h) fun a W hT hf hd => ?_
            obtain ⟨v11, e11, rfl⟩ := hd 11 rfl
            exact step_val (w' := W) (by simp only [execOp]; go_simp) ⟨NewMem.refl _, rfl⟩
          iterate 7 (refine owes_not rfl rfl (fun v w h => by rw [show v = .bool true from h]; simp) fun _ => trivial)
          · refine owes_if rfl rfl (fun v w h => h) fun a W hT hf hd => ?_
            obtain ⟨v12, e12, rfl⟩ := hd 12 rfl
            exact step_val (w' := W) (by simp only [execOp]; go_simp) ⟨NewMem.refl _, rfl⟩
          · refine owes_plain rfl fun a W hT hf hd => ?_
            obtain ⟨v8, e8, rfl⟩ := hd 8 rfl
            obtain ⟨v20, e20, rfl⟩ := hd 20 rfl
            exact step_val (w' := W) (by simp only [execOp]; go_simp) ⟨NewMem.refl _, rfl⟩
          · refine owes_plain rfl fun a W hT hf hd => ?_
            obtain ⟨v21, e21, rfl⟩ := hd 21 rfl
            exact step_val (w' := W) (by simp only [execOp]; go_simp) ⟨NewMem.refl _, rfl⟩
        · have he : e3 = 0 ∧ x = l.take m := by unfold rFix at hr3; rw [if_neg (by omega), if_neg hlm] at hr3; injection hr3 with h1 h; injection h with h h2; exact ⟨h2, h1⟩
          have hb1 : ((e3 : Int) == 0) = true := by rw [he.1]; rfl
          have hb2 : ((e3 : Int) != 0) = false := by rw [he.1]; rfl
          have hle : decide ((m : Int) ≤ (l.length : Int)) = true := by rw [decide_eq_true_iff]; omega
          have HX := Lib.hid he.2
          have hml : m ≤ c := by omega
          have hml2 : m ≤ l.length := by omega
          have hxm : x.length = m := by rw [he.2]; simp; omega
          have hqs : (str x).toList = x := str_toList x
          have HXM := Lib.hid hxm
          clear hr3 he hxm
          refine ⟨[.is (.pointer (some ⟨g7, 0, none⟩)), .is (.int .i64 (e3 : Int)), .is (.bool true), .is (.int .i64 (m : Int)), .is (.slice A l.length c), .is (.int .i64 (l.length : Int)), .is (.bool true), .is (.bool true), .is (.bool true), .is (.pointer (some ⟨g7, 0, none⟩)), .is (.int .i64 (e3 : Int)), .is (.bool false), .is (.bool false), .is (.slice A13 x.length c13), .is (.string (str x)), .is (.slice A l.length c), .is (.int .i64 (m : Int)), .is (.slice A m c), .is (.string (str x)), .is (.bool true), .is (.bool true), .is (.bool true), .is (.bool true)], ⟨?_, ?_, ?_, ?_, ?_, ?_, ?_, ?_, ?_, ?_, ?_, ?_, ?_, ?_, ?_, ?_, ?_, ?_, ?_, ?_, ?_, ?_, ?_, trivial⟩, fun _ _ _ h => h⟩
          · refine owes_plain rfl fun a W hT hf hd => ?_
            have e7 := hf 7 rfl
            exact step_val (w' := W) (by simp only [execOp]; go_simp) ⟨NewMem.refl _, rfl⟩
          · refine owes_plain rfl fun a W hT hf hd => ?_
            obtain ⟨v0, e0, rfl⟩ := hd 0 rfl
            refine step_call (w' := W) (f := 15) (args := #[.pointer (some ⟨g7, 0, none⟩)]) (by simp only [execOp]; go_simp) ?_
            refine (err_calls g7 l3 e3 W _ (hR13.drew.below hT)).mono ?_
            rintro e w' ⟨rfl, rfl⟩
            exact ⟨_, rfl, NewMem.refl _, rfl⟩
          · refine owes_plain rfl fun a W hT hf hd => ?_
            obtain ⟨v1, e1, rfl⟩ := hd 1 rfl
            exact step_val (w' := W) (by simp only [execOp]; go_simp) ⟨NewMem.refl _, rfl⟩
          · refine owes_plain rfl fun a W hT hf hd => ?_
            have e12 := hf 12 rfl
            exact step_val (w' := W) (by simp only [execOp]; go_simp) ⟨NewMem.refl _, rfl⟩
          · refine owes_plain rfl fun a W hT hf hd => ?_
            have e0 := hf 0 rfl
            exact step_val (w' := W) (by simp only [execOp]; go_simp) ⟨NewMem.refl _, rfl⟩
          · refine owes_plain rfl fun a W hT hf hd => ?_
            obtain ⟨v4, e4, rfl⟩ := hd 4 rfl
            exact step_val (w' := W) (by simp only [execOp]; go_simp) ⟨NewMem.refl _, rfl⟩
          · refine owes_plain rfl fun a W hT hf hd => ?_
            obtain ⟨v3, e3, rfl⟩ := hd 3 rfl
            obtain ⟨v5, e5, rfl⟩ := hd 5 rfl
            exact step_val (w' := W) (by simp only [execOp]; go_simp) ⟨NewMem.refl _, rfl⟩
          · refine owes_plain rfl fun a W hT hf hd => ?_
            obtain ⟨v2, e2, rfl⟩ := hd 2 rfl
            obtain ⟨v6, e6, rfl⟩ := hd 6 rfl
            exact step_val (w' := W) (by simp only [execOp]; go_simp) ⟨NewMem.refl _, rfl⟩
          · refine owes_plain rfl fun a W hT hf hd => ?_
            obtain ⟨v7, e7, rfl⟩ := hd 7 rfl
            exact step_val (w' := W) (by simp only [execOp]; go_simp) ⟨NewMem.refl _, rfl⟩
          · refine owes_if rfl rfl (fun v w h => h) fun a W hT hf hd => ?_
            have e7 := hf 7 rfl
            exact step_val (w' := W) (by simp only [execOp]; go_simp) ⟨NewMem.refl _, rfl⟩
          · refine owes_if rfl rfl (fun v w h => h) fun a W hT hf hd => ?_
            obtain ⟨v9, e9, rfl⟩ := hd 9 rfl
            refine step_call (w' := W) (f := 15) (args := #[.pointer (some ⟨g7, 0, none⟩)]) (by simp only [execOp]; go_simp) ?_
            refine (err_calls g7 l3 e3 W _ (hR13.drew.below hT)).mono ?_
            rintro e w' ⟨rfl, rfl⟩
            exact ⟨_, rfl, NewMem.refl _, rfl⟩
          · refine owes_if rfl rfl (fun v w h => h) fun a W hT hf hd => ?_
            obtain ⟨v10, e10, rfl⟩ := hd 10 rfl
            exact step_val (w' := W) (by simp only [execOp]; go_simp) ⟨NewMem.refl _, rfl⟩
          · refine owes_if rfl rfl (fun v w h => h) fun a W hT hf hd => ?_
            obtain ⟨v11, e11, rfl⟩ := hd 11 rfl
            exact step_val (w' := W) (by simp only [execOp]; go_simp) ⟨NewMem.refl _, rfl⟩
          · refine owes_if rfl rfl (fun v w h => h) fun a W hT hf hd => ?_
            have e13 := hf 13 rfl
            exact step_val (w' := W) (by simp only [execOp]; go_simp) ⟨NewMem.refl _, rfl⟩
          · refine owes_if rfl rfl (fun v w h => h) fun a W hT hf hd => ?_
            obtain ⟨v13, e13, rfl⟩ := hd 13 rfl
            have hcv := conv_str c13 (HX13.out.drew.below hT)
            exact step_val (w' := W) (by simp only [execOp]; go_simp) ⟨NewMem.refl _, rfl⟩
          · refine owes_if rfl rfl (fun v w h => h) fun a W hT hf hd => ?_
            have e0 := hf 0 rfl
            exact step_val (w' := W) (by simp only [execOp]; go_simp) ⟨NewMem.refl _, rfl⟩
          · refine owes_if rfl rfl (fun v w h => h) fun a W hT hf hd => ?_
            have e12 := hf 12 rfl
            exact step_val (w' := W) (by simp only [execOp]; go_simp) ⟨NewMem.refl _, rfl⟩
          · refine owes_if rfl rfl (fun v w h => h) fun a W hT hf hd => ?_
            obtain ⟨v15, e15, rfl⟩ := hd 15 rfl
            obtain ⟨v16, e16, rfl⟩ := hd 16 rfl
            exact step_val (w' := W) (by simp only [execOp]; go_simp) ⟨NewMem.refl _, rfl⟩
          · refine owes_if rfl rfl (fun v w h => h) fun a W hT hf hd => ?_
            obtain ⟨v17, e17, rfl⟩ := hd 17 rfl
            have hr17 := HL13.out.take m
            rw [← bc_take, ← HX.out] at hr17
            have hcv := conv_str c (hr17.drew.below hT)
            rw [HXM.out] at hcv
            exact step_val (w' := W) (by simp only [execOp]; go_simp) ⟨NewMem.refl _, rfl⟩
          · refine owes_if rfl rfl (fun v w h => h) fun a W hT hf hd => ?_
            obtain ⟨v14, e14, rfl⟩ := hd 14 rfl
            obtain ⟨v18, e18, rfl⟩ := hd 18 rfl
            exact step_val (w' := W) (by simp only [execOp]; go_simp) ⟨NewMem.refl _, rfl⟩
          · refine owes_if rfl rfl (fun v w h => h) fun a W hT hf hd => ?_
            obtain ⟨v12, e12, rfl⟩ := hd 12 rfl
            obtain ⟨v19, e19, rfl⟩ := hd 19 rfl
            exact step_val (w' := W) (by simp only [execOp]; go_simp) ⟨NewMem.refl _, rfl⟩
          · refine owes_plain rfl fun a W hT hf hd => ?_
            obtain ⟨v8, e8, rfl⟩ := hd 8 rfl
            obtain ⟨v20, e20, rfl⟩ := hd 20 rfl
            exact step_val (w' := W) (by simp only [execOp]; go_simp) ⟨NewMem.refl _, rfl⟩
          · refine owes_plain rfl fun a W hT hf hd => ?_
            obtain ⟨v21, e21, rfl⟩ := hd 21 rfl
            exact step_val (w' := W) (by simp only [execOp]; go_simp) ⟨NewMem.refl _, rfl⟩
      · intro aE wE hTE hsz hdf hv
        go_wp2
        refine bodyPost_ret (results_tmp rfl _ _ _) hdf ?_
        exact ⟨by rw [Array.getD_eq_getD_getElem?, hv], below_then (w1 := w13.drew) a13.drew hTE (Nat.le_refl _)⟩

set_option maxHeartbeats 1000000 in
theorem only_out (w : World) (A : Option Addr) (l : List UInt8) (c : Nat) (n : Int) (hm : c ≤ maxLen) (hc : l.length ≤ c) (h : 3000 < l.length) :
    Calls Try.prog 8 #[.slice A l.length c, .int .i64 n] w fun e w' => e = .returned (.bool true) ∧ Below w.heap.size w w' := by
  unfold maxLen at hm
  go_enter Try.func8, Try.ntmps8
  go_wp2_with (go_at_call 12; refine (lives1 _).mono ?_; rintro e w1 ⟨rfl, hb⟩)
  go_ret
  exact ⟨rfl, hb⟩

theorem octetOnly_walk (w : World) (A : Option Addr) (l : List UInt8) (c : Nat) (hr : Rd w (fun k => k < w.heap.size) A (bc l)) (hc : l.length ≤ c) (hm : c ≤ maxLen) (n : Int) (hn : -9223372036854775808 ≤ n ∧ n ≤ 9223372036854775807) :
    Calls Try.prog 8 #[.slice A l.length c, .int .i64 n] w fun e w' => e = .returned (.bool true) ∧ Below w.heap.size w w' := by
  by_cases h : 3000 < l.length
  · exact only_out w A l c n hm hc h
  · exact only_go w A l c hr hc n hn (by omega)
end Go.Proofs.Ytfkbmnlohaghbaa
