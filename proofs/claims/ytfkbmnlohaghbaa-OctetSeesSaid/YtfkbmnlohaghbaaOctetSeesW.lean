/- The walk of the law OctetSees. No condition. -/
import Derived.Test.YtfkbmnlohaghbaaLives1
import Derived.Test.YtfkbmnlohaghbaaKit
import Derived.Test.YtfkbmnlohaghbaaRegion2
namespace Go.Proofs.Ytfkbmnlohaghbaa
set_option linter.unusedVariables false
set_option linter.unusedSimpArgs false
open Go.RowKit

theorem leN_set (l : List UInt8) : ∀ (j : Nat) (h : j < l.length) (d : UInt8), leN (l.set j (l[j] ^^^ d)) = leN l ^^^ (2 ^ (8 * j) * d.toNat) := by
  induction l with
  | nil => intro j h; simp at h
  | cons c l ih =>
    intro j h d
    cases j with
    | zero =>
      simp only [List.set_cons_zero, List.getElem_cons_zero, leN, Nat.mul_zero, Nat.pow_zero, Nat.one_mul]
      rw [add_xor_byte, add_xor_byte, UInt8.toNat_xor, Nat.xor_assoc, Nat.xor_assoc, Nat.xor_comm d.toNat]
    | succ j =>
      have hj : j < l.length := by simpa using h
      simp only [List.set_cons_succ, List.getElem_cons_succ, leN]
      rw [ih j hj d, add_xor_byte, add_xor_byte, Nat.xor_assoc]
      congr 1
      rw [show 8 * (j + 1) = 8 + 8 * j from by omega, Nat.pow_add, Nat.mul_assoc]
      apply Nat.eq_of_testBit_eq
      intro i
      simp only [Nat.testBit_two_pow_mul, Nat.testBit_xor]
      by_cases h8 : 8 ≤ i <;> simp [h8]
theorem mod_pow_succ (x j : Nat) : x % 2 ^ (j + 1) = (x % 2 ^ j) ^^^ (2 ^ j * (x / 2 ^ j % 2)) := by
  apply Nat.eq_of_testBit_eq
  intro i
  simp only [Nat.testBit_mod_two_pow, Nat.testBit_xor, Nat.testBit_two_pow_mul]
  rcases Nat.lt_trichotomy i j with h | h | h
  · simp [h, show i < j + 1 by omega, show ¬ j ≤ i by omega]
  · subst h
    simp [Nat.testBit_zero, Nat.testBit_eq_decide_div_mod_eq]
  · have : (x / 2 ^ j % 2).testBit (i - j) = false := Nat.testBit_lt_two_pow (Nat.lt_of_lt_of_le (Nat.mod_lt _ (by omega)) (Nat.le_self_pow (by omega) 2))
    simp [show ¬ i < j by omega, show ¬ i < j + 1 by omega, this]

theorem bc_set (m : List UInt8) (j : Nat) (v : UInt8) : (bc m).set j (.int .u8 (v.toNat : Int)) = bc (m.set j v) := by simp [bc, List.map_set]
theorem flip_val (u : UInt8) (r : Nat) : bits .xor .u8 (u.toNat : Int) (2 ^ r % 256) = ((u ^^^ UInt8.ofNat (2 ^ r)).toNat : Int) := by
  have h1 : ((2 : Int) ^ r % 256) = ((2 ^ r % 256 : Nat) : Int) := by
    rw [Int.natCast_emod, Int.natCast_pow]; rfl
  have hu := u.toNat_lt
  rw [h1, u8_xor_nat _ _ (by omega) (Nat.mod_lt _ (by omega)), UInt8.toNat_xor, UInt8.toNat_ofNat']
theorem tmod_bit (ch j : Nat) : ((ch : Int) / 2 ^ j).tmod 2 = ((ch / 2 ^ j % 2 : Nat) : Int) := by
  have h1 : ((ch : Int) / 2 ^ j) = ((ch / 2 ^ j : Nat) : Int) := by rw [Int.natCast_ediv, Int.natCast_pow]; rfl
  rw [h1, Int.tmod_eq_emod_of_nonneg (Int.natCast_nonneg _)]
  rfl

set_option maxHeartbeats 2000000 in
theorem sees_go (w : World) (A : Option Addr) (l : List UInt8) (c : Nat) (hr : Rd w (fun k => k < w.heap.size) A (bc l)) (hc : l.length ≤ c) (hm : c ≤ maxLen) (at_ : Int) (hat : -9223372036854775808 ≤ at_ ∧ at_ ≤ 9223372036854775807) (ch : Nat) (hch : ch < 4294967296) (cut : Int) (hcut : -9223372036854775808 ≤ cut ∧ cut ≤ 9223372036854775807)
    (h5 : 5 ≤ l.length) (h3 : l.length ≤ 3000) (h0 : 0 < ch) :
    Calls Try.prog 5 #[.slice A l.length c, .int .i64 at_, .int .u32 (ch : Int), .int .i64 cut] w fun e w' => e = .returned (.bool true) ∧ Below w.heap.size w w' := by
  have hch0 : ((ch : Int) == 0) = false := by rw [beq_eq_false_iff_ne]; omega
  have H := Lib.hid hr
  clear hr
  go_enter Try.func5, Try.ntmps5
  go_wp2_with fail
  refine (lives1 _).mono ?_
  rintro e w1 ⟨rfl, hb1⟩
  go_wp2_with fail
  refine (own_calls A l c _ _ (H.out.below hb1) (by omega)).mono ?_
  rintro e w2 ⟨A2, c2, rfl, hown2, hb2⟩
  go_wp2_with fail
  refine (pick_calls at_ (((l.length : Int) - 4) * 8) _ hat.1 hat.2 (by omega) (by omega)).mono ?_
  rintro e w3 ⟨rfl, rfl⟩
  have hk0 : 0 ≤ at_ % (((l.length : Int) - 4) * 8) := Int.emod_nonneg _ (by omega)
  have hk1 : at_ % (((l.length : Int) - 4) * 8) < ((l.length : Int) - 4) * 8 := Int.emod_lt_of_pos _ (by omega)
  obtain ⟨k, hk⟩ := Int.eq_ofNat_of_zero_le hk0
  rw [hk] at hk1 ⊢
  have hkl : k + 32 ≤ 8 * l.length := by omega
  clear hk hk0 hk1
  obtain ⟨g, cap, hv, hgb, hgs⟩ := hown2.form (by omega)
  injection hv with hv1 _ hv3
  subst hv1
  subst hv3
  have a2 : Below w.heap.size w w2 := below_then hb1 hb2 (Nat.le_refl _)
  have hgw : w.heap.size ≤ g := Nat.le_trans hb1.size hgb
  have hcc := own_shape hown2
  go_wp2_with fail
  go_loopw [11] (fun i wr => ∃ (j : Nat) (m : List UInt8), j ≤ 32 ∧ i = .int .i64 j ∧ Hid (m.length = l.length) ∧ Hid (leN m = leN l ^^^ (2 ^ k * (ch % 2 ^ j))) ∧ Hid (wr.ownsRow w1.heap.size 5 1 (.slice (some ⟨g, 0, none⟩) l.length c2) l.length (bc m)) ∧ Below w.heap.size w wr) (fun i _ => 32 - (intOf i).toNat)
  case atStart => exact ⟨0, l, by omega, rfl, rfl, by show _ = _; simp [Nat.mod_one], hown2, a2⟩
  case round =>
    obtain ⟨j, m, hj, rfl, hml, hle, hown, hbel⟩ := hrel
    by_cases hlt : j < 32
    · by_cases hbit : ch / 2 ^ j % 2 = 1
      · have ht : (((ch : Int) / 2 ^ j).tmod 2 == 1) = true := by rw [tmod_bit, hbit]; rfl
        have hjm : (k + j) / 8 < m.length := by rw [hml.out]; omega
        have hcell : wr.cell? ⟨g, (k + j) / 8, none⟩ = some (.int .u8 (m[(k + j) / 8].toNat : Int)) := by
          rw [hown.out.cellAt _ (by rw [← hml.out]; omega), bc_get _ _ hjm]
        have hfz := hown.out.frozenAt ((k + j) / 8)
        obtain ⟨u, hu⟩ : ∃ u, u = m[(k + j) / 8] := ⟨_, rfl⟩
        rw [← hu] at hcell
        have HU := Lib.hid hu
        clear hu
        go_wp2
        go_roundw
        case rel =>
          rw [flip_val]
          have hst := hown.out.stored ((k + j) / 8) (.int .u8 ((u ^^^ UInt8.ofNat (2 ^ ((k + j) % 8))).toNat : Int))
          rw [bc_set] at hst
          refine ⟨j + 1, m.set ((k + j) / 8) (u ^^^ UInt8.ofNat (2 ^ ((k + j) % 8))), by omega, by go_num, by show _ = _; rw [List.length_set]; exact hml.out, ?_, hst.1, hbel.setCell hgw _⟩
          show _ = _
          have hp : 2 ^ ((k + j) % 8) % 2 ^ 8 = 2 ^ ((k + j) % 8) := Nat.mod_eq_of_lt (Nat.pow_lt_pow_right (by omega) (by omega))
          have e1 := leN_set m ((k + j) / 8) hjm (UInt8.ofNat (2 ^ ((k + j) % 8)))
          rw [← HU.out, UInt8.toNat_ofNat', hp, ← Nat.pow_add, hle.out, show 8 * ((k + j) / 8) + (k + j) % 8 = k + j from by omega] at e1
          rw [e1, mod_pow_succ, hbit, Nat.mul_one, Nat.xor_assoc]
          congr 1
          apply Nat.eq_of_testBit_eq
          intro i
          simp only [Nat.testBit_two_pow_mul, Nat.testBit_xor, Nat.testBit_two_pow]
          by_cases hki : k ≤ i
          · simp only [hki, decide_true, Bool.true_and]
            congr 1
            rw [decide_eq_decide]
            omega
          · simp only [hki, decide_false, Bool.false_and, Bool.false_bne]
            rw [decide_eq_false (by omega)]
        case measure => simp [intOf]; omega
      · have ht : (((ch : Int) / 2 ^ j).tmod 2 == 1) = false := by
          rw [tmod_bit, beq_eq_false_iff_ne]
          omega
        go_wp2
        go_roundw
        case rel =>
          refine ⟨j + 1, m, by omega, by go_num, hml, ?_, hown, hbel⟩
          show _ = _
          rw [hle.out, mod_pow_succ, show ch / 2 ^ j % 2 = 0 from by omega, Nat.mul_zero, Nat.xor_zero]
        case measure => simp [intOf]; omega
    · have hj32 : j = 32 := by omega
      subst hj32
      have hle2 : leN m = leN l ^^^ (2 ^ k * ch) := by
        have := hle.out
        rwa [Nat.mod_eq_of_lt (show ch < 2 ^ 32 by omega)] at this
      have hcrc := crc_sees l m ch k hml.out hle2 (by omega) hch (by omega)
      have HCRC := Lib.hid hcrc
      have hml' := hml.out
      have HML := Lib.hid hml'
      clear hcrc hle2 hml' hle hml
      go_wp2_with fail
      refine (pick_calls cut ((l.length : Int) + 1) _ hcut.1 hcut.2 (by omega) (by omega)).mono ?_
      rintro e w4 ⟨rfl, rfl⟩
      have hk0 : 0 ≤ cut % ((l.length : Int) + 1) := Int.emod_nonneg _ (by omega)
      have hk1 : cut % ((l.length : Int) + 1) < (l.length : Int) + 1 := Int.emod_lt_of_pos _ (by omega)
      obtain ⟨n, hn⟩ := Int.eq_ofNat_of_zero_le hk0
      rw [hn] at hk1 ⊢
      have hnl : n ≤ l.length := by omega
      clear hn hk0 hk1
      have hL := Lib.hid ((H.out.belowB hbel fun k hk => hk).mono (F' := fun _ => True) fun _ _ _ => trivial)
      have hM := Lib.hid ((Rd.of_own hown.out (by omega)).mono (F' := fun _ => True) fun _ _ _ => trivial)
      have hml2 := HML.out
      have hlc2 : l.length ≤ c2 := by obtain ⟨A', c', e, h, _⟩ := hcc; injection e with _ _ e; rw [e]; exact h
      clear hcc
      have hne : ((crc m : Int) != (crc l : Int)) = true := by rw [bne_iff_ne]; have := HCRC.out; omega
      go_wp2_with fail
      refine region_last (T := NewMem) NewMem.trans NewMem.refl (prOf_st [
        .is (.slice (some ⟨g, 0, none⟩) l.length c2), .lists (fun _ => True) [m], .is (.int .u32 (crc m : Int)), .is (.slice A l.length c), .lists (fun _ => True) [l], .is (.int .u32 (crc l : Int)), .is (.bool true), .is (.bool true),
        .is (.slice A l.length c), .is (.int .i64 (n : Int)), .bytes (fun _ => True) (l.take n), .is (.slice A l.length c), .is (.int .i64 (n : Int)), .bytes (fun _ => True) (l.drop n), .lists (fun _ => True) [l.take n, l.drop n], .is (.int .u32 (crc l : Int)),
        .is (.slice A l.length c), .lists (fun _ => True) [l], .is (.int .u32 (crc l : Int)), .is (.bool true), .is (.bool true), .is (.bool true)]) (by kernel_rfl) (by kernel_rfl) (by kernel_rfl) ?_ ?_
      · refine ⟨?_, ?_, ?_, ?_, ?_, ?_, ?_, ?_, ?_, ?_, ?_, ?_, ?_, ?_, ?_, ?_, ?_, ?_, ?_, ?_, ?_, ?_, trivial⟩
        · refine owes_plain rfl fun a W hT hf hd => ?_
          have e := hf 9 rfl
          exact step_val (w' := W) (by simp only [execOp]; go_simp) ⟨NewMem.refl _, rfl⟩
        · refine owes_plain rfl fun a W hT hf hd => ?_
          obtain ⟨v, e, rfl⟩ := hd 0 rfl
          refine step_val (w' := W.alloc (.cells #[.slice (some ⟨g, 0, none⟩) l.length c2] 24)) (v := .slice (some ⟨W.heap.size, 0, none⟩) 1 1) (by simp only [execOp]; go_simp) ⟨NewMem.alloc _ _, _, 1, rfl, ?_, Nat.le_refl _⟩
          have hr := hM.out.drew.below hT
          rw [← hml2]
          exact (rdl_one 24 hr (by rw [hml2]; exact hlc2) rfl).mono fun _ _ _ => trivial
        · refine owes_plain rfl fun a W hT hf hd => ?_
          obtain ⟨v, e, A1, c1, rfl, hr, hc1⟩ := hd 1 rfl
          refine step_call (w' := W) (f := 20) (args := #[.slice A1 1 c1]) (by simp only [execOp]; go_simp) ?_
          refine (sum_calls A1 [m] c1 W _ hr (by simp) (by simp; omega)).mono ?_
          rintro e w' ⟨rfl, hb⟩
          exact ⟨_, rfl, hb, by simp; rfl⟩
        · refine owes_plain rfl fun a W hT hf hd => ?_
          have e0 := hf 0 rfl
          exact step_val (w' := W) (by simp only [execOp]; go_simp) ⟨NewMem.refl _, rfl⟩
        · refine owes_plain rfl fun a W hT hf hd => ?_
          obtain ⟨v, e, rfl⟩ := hd 3 rfl
          refine step_val (w' := W.alloc (.cells #[.slice A l.length c] 24)) (v := .slice (some ⟨W.heap.size, 0, none⟩) 1 1) (by simp only [execOp]; go_simp) ⟨NewMem.alloc _ _, _, 1, rfl, ?_, Nat.le_refl _⟩
          exact (rdl_one 24 (hL.out.drew.below hT) hc rfl).mono fun _ _ _ => trivial
        · refine owes_plain rfl fun a W hT hf hd => ?_
          obtain ⟨v, e, A1, c1, rfl, hr, hc1⟩ := hd 4 rfl
          refine step_call (w' := W) (f := 20) (args := #[.slice A1 1 c1]) (by simp only [execOp]; go_simp) ?_
          refine (sum_calls A1 [l] c1 W _ hr (by simp) (by simp; omega)).mono ?_
          rintro e w' ⟨rfl, hb⟩
          exact ⟨_, rfl, hb, by simp; rfl⟩
        · refine owes_plain rfl fun a W hT hf hd => ?_
          obtain ⟨v2, e2, rfl⟩ := hd 2 rfl
          obtain ⟨v5, e5, rfl⟩ := hd 5 rfl
          exact step_val (w' := W) (by simp only [execOp]; go_simp) ⟨NewMem.refl _, rfl⟩
        · refine owes_plain rfl fun a W hT hf hd => ?_
          obtain ⟨v6, e6, rfl⟩ := hd 6 rfl
          exact step_val (w' := W) (by simp only [execOp]; go_simp) ⟨NewMem.refl _, rfl⟩
        · refine owes_if rfl rfl (fun v w h => h) fun a W hT hf hd => ?_
          have e0 := hf 0 rfl
          exact step_val (w' := W) (by simp only [execOp]; go_simp) ⟨NewMem.refl _, rfl⟩
        · refine owes_if rfl rfl (fun v w h => h) fun a W hT hf hd => ?_
          have e12 := hf 12 rfl
          exact step_val (w' := W) (by simp only [execOp]; go_simp) ⟨NewMem.refl _, rfl⟩
        · refine owes_if rfl rfl (fun v w h => h) fun a W hT hf hd => ?_
          obtain ⟨v, e, rfl⟩ := hd 8 rfl
          obtain ⟨v', e', rfl⟩ := hd 9 rfl
          have hl := List.length_take_of_le hnl
          have hnc : n ≤ c := by omega
          have hr := hL.out.take n
          rw [← bc_take] at hr
          exact step_val (w' := W) (v := .slice A n c) (by simp only [execOp]; go_simp) ⟨NewMem.refl _, A, c, by rw [hl], hr.drew.below hT, by omega⟩
        · refine owes_if rfl rfl (fun v w h => h) fun a W hT hf hd => ?_
          have e0 := hf 0 rfl
          exact step_val (w' := W) (by simp only [execOp]; go_simp) ⟨NewMem.refl _, rfl⟩
        · refine owes_if rfl rfl (fun v w h => h) fun a W hT hf hd => ?_
          have e12 := hf 12 rfl
          exact step_val (w' := W) (by simp only [execOp]; go_simp) ⟨NewMem.refl _, rfl⟩
        · refine owes_if rfl rfl (fun v w h => h) fun a W hT hf hd => ?_
          obtain ⟨v, e, rfl⟩ := hd 11 rfl
          obtain ⟨v', e', rfl⟩ := hd 12 rfl
          have hl : (l.drop n).length = l.length - n := List.length_drop ..
          have hr := hL.out.cut (k := n) (cap := c) (by simpa using hc)
          rw [← bc_drop] at hr
          refine step_val (w' := W) (v := .slice (if c = n then A else A.map (·.add n)) (l.length - n) (c - n)) (by simp only [execOp]; go_simp) ⟨NewMem.refl _, _, c - n, by rw [hl], hr.drew.below hT, by omega⟩
        · refine owes_if rfl rfl (fun v w h => h) fun a W hT hf hd => ?_
          obtain ⟨v, e, A1, c1, rfl, hr1, hc1⟩ := hd 10 rfl
          obtain ⟨v', e', A2, c2', rfl, hr2, hc2⟩ := hd 13 rfl
          refine step_val (w' := W.alloc (.cells #[.slice A1 (l.take n).length c1, .slice A2 (l.drop n).length c2'] 24)) (v := .slice (some ⟨W.heap.size, 0, none⟩) 2 2) (by simp only [execOp]; go_simp) ⟨NewMem.alloc _ _, _, 2, rfl, ?_, Nat.le_refl _⟩
          exact (rdl_two 24 hr1 hc1 hr2 hc2 rfl).mono fun _ _ _ => trivial
        · refine owes_if rfl rfl (fun v w h => h) fun a W hT hf hd => ?_
          obtain ⟨v, e, A1, c1, rfl, hr, hc1⟩ := hd 14 rfl
          refine step_call (w' := W) (f := 20) (args := #[.slice A1 2 c1]) (by simp only [execOp]; go_simp) ?_
          refine (sum_calls A1 [l.take n, l.drop n] c1 W _ hr (by simp) (by simp; omega)).mono ?_
          rintro e w' ⟨rfl, hb⟩
          exact ⟨_, rfl, hb, by simp; rfl⟩
        · refine owes_if rfl rfl (fun v w h => h) fun a W hT hf hd => ?_
          have e0 := hf 0 rfl
          exact step_val (w' := W) (by simp only [execOp]; go_simp) ⟨NewMem.refl _, rfl⟩
        · refine owes_if rfl rfl (fun v w h => h) fun a W hT hf hd => ?_
          obtain ⟨v, e, rfl⟩ := hd 16 rfl
          refine step_val (w' := W.alloc (.cells #[.slice A l.length c] 24)) (v := .slice (some ⟨W.heap.size, 0, none⟩) 1 1) (by simp only [execOp]; go_simp) ⟨NewMem.alloc _ _, _, 1, rfl, ?_, Nat.le_refl _⟩
          exact (rdl_one 24 (hL.out.drew.below hT) hc rfl).mono fun _ _ _ => trivial
        · refine owes_if rfl rfl (fun v w h => h) fun a W hT hf hd => ?_
          obtain ⟨v, e, A1, c1, rfl, hr, hc1⟩ := hd 17 rfl
          refine step_call (w' := W) (f := 20) (args := #[.slice A1 1 c1]) (by simp only [execOp]; go_simp) ?_
          refine (sum_calls A1 [l] c1 W _ hr (by simp) (by simp; omega)).mono ?_
          rintro e w' ⟨rfl, hb⟩
          exact ⟨_, rfl, hb, by simp; rfl⟩
        · refine owes_if rfl rfl (fun v w h => h) fun a W hT hf hd => ?_
          obtain ⟨v15, e15, rfl⟩ := hd 15 rfl
          obtain ⟨v18, e18, rfl⟩ := hd 18 rfl
          exact step_val (w' := W) (by simp only [execOp]; go_simp) ⟨NewMem.refl _, rfl⟩
        · refine owes_plain rfl fun a W hT hf hd => ?_
          obtain ⟨v7, e7, rfl⟩ := hd 7 rfl
          obtain ⟨v19, e19, rfl⟩ := hd 19 rfl
          exact step_val (w' := W) (by simp only [execOp]; go_simp) ⟨NewMem.refl _, rfl⟩
        · refine owes_plain rfl fun a W hT hf hd => ?_
          obtain ⟨v20, e20, rfl⟩ := hd 20 rfl
          exact step_val (w' := W) (by simp only [execOp]; go_simp) ⟨NewMem.refl _, rfl⟩
      · intro aE wE hTE hsz hdf hfr hp
        obtain ⟨v, e, rfl⟩ := hp 21 rfl
        clear hp hfr hsz
        go_wp2
        refine bodyPost_ret (results_tmp rfl _ _ _) hdf ?_
        exact ⟨by rw [Array.getD_eq_getD_getElem?, e], below_then (w1 := wr.drew) hbel.drew hTE (Nat.le_refl _)⟩

set_option maxHeartbeats 1000000 in
theorem sees_out (w : World) (A : Option Addr) (l : List UInt8) (c : Nat) (hm : c ≤ maxLen) (hc : l.length ≤ c) (at_ : Int) (ch : Nat) (cut : Int) (h : 3000 < l.length ∨ (l.length ≤ 3000 ∧ l.length < 5) ∨ (l.length ≤ 3000 ∧ 5 ≤ l.length ∧ ch = 0)) :
    Calls Try.prog 5 #[.slice A l.length c, .int .i64 at_, .int .u32 (ch : Int), .int .i64 cut] w fun e w' => e = .returned (.bool true) ∧ Below w.heap.size w w' := by
  unfold maxLen at hm
  rcases h with h | ⟨h, h'⟩ | ⟨h, h', rfl⟩
  all_goals
    go_enter Try.func5, Try.ntmps5
    go_wp2_with (go_at_call 12; refine (lives1 _).mono ?_; rintro e w1 ⟨rfl, hb⟩)
    go_ret
    exact ⟨rfl, hb⟩

theorem octetSees_walk (w : World) (A : Option Addr) (l : List UInt8) (c : Nat) (hr : Rd w (fun k => k < w.heap.size) A (bc l)) (hc : l.length ≤ c) (hm : c ≤ maxLen) (at_ : Int) (hat : -9223372036854775808 ≤ at_ ∧ at_ ≤ 9223372036854775807) (ch : Nat) (hch : ch < 4294967296) (cut : Int) (hcut : -9223372036854775808 ≤ cut ∧ cut ≤ 9223372036854775807) :
    Calls Try.prog 5 #[.slice A l.length c, .int .i64 at_, .int .u32 (ch : Int), .int .i64 cut] w fun e w' => e = .returned (.bool true) ∧ Below w.heap.size w w' := by
  by_cases h : 3000 < l.length ∨ (l.length ≤ 3000 ∧ l.length < 5) ∨ (l.length ≤ 3000 ∧ 5 ≤ l.length ∧ ch = 0)
  · exact sees_out w A l c hm hc at_ ch cut h
  · exact sees_go w A l c hr hc hm at_ hat ch hch cut hcut (by omega) (by omega) (by omega)
end Go.Proofs.Ytfkbmnlohaghbaa
