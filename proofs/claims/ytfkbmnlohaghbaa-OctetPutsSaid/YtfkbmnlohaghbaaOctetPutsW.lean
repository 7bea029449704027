/- The walk of the law OctetPuts. No condition. -/
import Derived.Test.YtfkbmnlohaghbaaLives1
import Derived.Test.YtfkbmnlohaghbaaRef1
import Derived.Test.YtfkbmnlohaghbaaRegionG
namespace Go.Proofs.Ytfkbmnlohaghbaa
set_option linter.unusedVariables false
set_option linter.unusedSimpArgs false
open Go.RowKit

/-- How the world may turn in the law's last statement: blocks below the first number stay; the second counts what has become of the copy that drawbridgeref01.Number appends to. -/
def putsT (w : World) (γ : Nat × Nat) (w' : World) (γ' : Nat × Nat) : Prop := γ.1 ≤ γ'.1 ∧ γ.2 ≤ γ'.2 ∧ (γ.2 = 2 → γ'.2 = 2) ∧ Below γ.1 w w' ∧ (γ.2 = 1 → γ'.2 = 1 → γ.1 = γ'.1 ∧ NewMem w w')
theorem putsT_refl (w : World) (γ : Nat × Nat) : putsT w γ w γ := ⟨Nat.le_refl _, Nat.le_refl _, fun h => h, Below.refl _ _, fun _ _ => ⟨rfl, NewMem.refl _⟩⟩
theorem putsT_trans (a : World) (α : Nat × Nat) (b : World) (β : Nat × Nat) (c : World) (δ : Nat × Nat) (h : putsT a α b β) (k : putsT b β c δ) : putsT a α c δ := by
  obtain ⟨h1, h2, h3, h4, h5⟩ := h
  obtain ⟨k1, k2, k3, k4, k5⟩ := k
  refine ⟨Nat.le_trans h1 k1, Nat.le_trans h2 k2, fun e => k3 (h3 e), h4.trans (k4.mono h1), fun e1 e2 => ?_⟩
  have e3 : β.2 = 1 := by omega
  obtain ⟨p1, p2⟩ := h5 e1 e3
  obtain ⟨q1, q2⟩ := k5 e3 e2
  exact ⟨p1.trans q1, NewMem.trans _ _ _ p2 q2⟩
def putsJ (B : Nat) (dn : Nat → Bool) (w : World) (γ : Nat × Nat) : Prop := γ.1 ≤ w.heap.size ∧ B ≤ γ.1 ∧ γ.2 = (if dn 8 then 2 else if dn 6 then 1 else 0) ∧ (dn 6 = true → dn 3 = true) ∧ (dn 3 = true → dn 1 = true) ∧ (dn 8 = true → dn 6 = true)
theorem putsJ_keep {B : Nat} {dn : Nat → Bool} {w w' : World} {γ : Nat × Nat} {i : Nat} (hi : i ≠ 1 ∧ i ≠ 3 ∧ i ≠ 6 ∧ i ≠ 8) (h : putsJ B dn w γ) (n : Nat) (hn : n ≤ w'.heap.size) (hB : γ.1 ≤ n) : putsJ B (did dn i) w' (n, γ.2) := by
  obtain ⟨h1, h2, h3, h4, h5, h6⟩ := h
  obtain ⟨i1, i2, i3, i4⟩ := hi
  refine ⟨hn, Nat.le_trans h2 hB, ?_, ?_, ?_, ?_⟩
  · simp only [did, if_neg (Ne.symm i3), if_neg (Ne.symm i4)]; exact h3
  · simp only [did, if_neg (Ne.symm i3), if_neg (Ne.symm i2)]; exact h4
  · simp only [did, if_neg (Ne.symm i2), if_neg (Ne.symm i1)]; exact h5
  · simp only [did, if_neg (Ne.symm i4), if_neg (Ne.symm i3)]; exact h6
theorem putsJ_same {B : Nat} {dn : Nat → Bool} {w : World} {γ : Nat × Nat} {i : Nat} (hi : i ≠ 1 ∧ i ≠ 3 ∧ i ≠ 6 ∧ i ≠ 8) (h : putsJ B dn w γ) : putsJ B (did dn i) w γ := putsJ_keep hi h γ.1 h.1 (Nat.le_refl _)
def PrG.bytesB (l : List UInt8) : PrG putsT := ⟨fun v w γ => ∃ A c, v = .slice A l.length c ∧ Rd w (fun k => k < γ.1) A (bc l) ∧ l.length ≤ c, fun _ _ _ _ _ ⟨A, c, e, h, hc⟩ ht => ⟨A, c, e, (h.belowB ht.2.2.2.1 fun k hk => hk).mono fun k _ hk => Nat.lt_of_lt_of_le hk ht.1, hc⟩⟩
def PrG.listsB (ls : List (List UInt8)) : PrG putsT := ⟨fun v w γ => ∃ A c, v = .slice A ls.length c ∧ RdL w (fun k => k < γ.1) A ls ∧ ls.length ≤ c, fun _ _ _ _ _ ⟨A, c, e, h, hc⟩ ht => ⟨A, c, e, (h.belowB ht.2.2.2.1 fun k hk => hk).mono fun k _ hk => Nat.lt_of_lt_of_le hk ht.1, hc⟩⟩
def PrG.ownB (l : List UInt8) : PrG putsT := ⟨fun v w γ => 1 ≤ γ.2 ∧ (γ.2 = 1 → ∃ A c, v = .slice A l.length c ∧ w.ownsRow γ.1 5 1 (.slice A l.length c) l.length (bc l)), fun _ _ _ _ _ ⟨h1, h2⟩ ht => ⟨Nat.le_trans h1 ht.2.1, fun e => by
  obtain ⟨t1, t2, t3, t4, t5⟩ := ht
  obtain ⟨A, c, e1, e2⟩ := h2 (by omega)
  obtain ⟨q1, q2⟩ := t5 (by omega) e
  rw [← q1]
  exact ⟨A, c, e1, own_below e2 q2⟩⟩⟩
def PrG.bytes2 (l : List UInt8) : PrG putsT := ⟨fun v w γ => (∃ A c, v = .slice A l.length c ∧ Rd w (fun k => k < γ.1) A (bc l) ∧ l.length ≤ c) ∧ γ.2 = 2, fun _ _ _ _ _ ⟨⟨A, c, e, h, hc⟩, h2⟩ ht => ⟨⟨A, c, e, (h.belowB ht.2.2.2.1 fun k hk => hk).mono fun k _ hk => Nat.lt_of_lt_of_le hk ht.1, hc⟩, ht.2.2.1 h2⟩⟩
def PrG.is2 (x : Value) : PrG putsT := ⟨fun v _ γ => v = x ∧ γ.2 = 2, fun _ _ _ _ _ ⟨h, h2⟩ ht => ⟨h, ht.2.2.1 h2⟩⟩

set_option maxHeartbeats 4000000 in
theorem puts_go (w : World) (A : Option Addr) (l : List UInt8) (c : Nat) (hr : Rd w (fun k => k < w.heap.size) A (bc l)) (hc : l.length ≤ c) (x : Nat) (hx : x < 18446744073709551616) (B : Option Addr) (p : List UInt8) (d : Nat) (hs : Rd w (fun k => k < w.heap.size) B (bc p)) (hd' : p.length ≤ d)
    (hl3 : l.length ≤ 3000) (hp3 : p.length ≤ 3000) :
    Calls Try.prog 4 #[.slice A l.length c, .int .u64 (x : Int), .slice B p.length d] w fun e w' => e = .returned (.bool true) ∧ Below w.heap.size w w' := by
  have HA := Lib.hid hr
  have HB := Lib.hid hs
  clear hr hs
  have hn8 := nlen_le8 (x := p.length) (by omega)
  have hn9 := nlen_le8 hx
  obtain ⟨u, hu⟩ : ∃ u, u = l ++ num p.length ++ p := ⟨_, rfl⟩
  obtain ⟨v, hv⟩ : ∃ v, v = l ++ num x := ⟨_, rfl⟩
  have hul : u.length ≤ 6009 := by rw [hu]; simp [num_length]; omega
  have hvl : v.length ≤ 3009 := by rw [hv]; simp [num_length]; omega
  have HU := Lib.hid hu
  have HV := Lib.hid hv
  clear hu hv hn8 hn9
  go_enter Try.func4, Try.ntmps4
  go_wp2_with fail
  refine (lives1 _).mono ?_
  rintro e w1 ⟨rfl, hb1⟩
  go_wp2_with fail
  refine (own_calls A l c _ _ (HA.out.below hb1) (by omega)).mono ?_
  rintro e w2 ⟨A2, c2, rfl, hown2, hb2⟩
  go_wp2_with fail
  refine (own_calls B p d _ _ ((HB.out.below hb1).below hb2) (by omega)).mono ?_
  rintro e w3 ⟨A3, c3, rfl, hown3, hb3⟩
  go_wp2_with fail
  have H4 := block_calls A2 A3 l p c2 c3 w3 _ _ ((Rd.of_own hown2 (by omega)).below hb3) (Rd.of_own hown3 (by omega)) (by omega) (by omega)
  rw [← HU.out] at H4
  refine H4.mono ?_
  clear H4
  rintro e w4 ⟨A4, c4, rfl, hown4, hb4⟩
  have a3 := below_then (below_then hb1 hb2 (Nat.le_refl _)) hb3 (Nat.le_refl _)
  have a4 := below_then a3 hb4 (Nat.le_refl _)
  clear hown2 hown3 hb2 hb3 hb4 hb1
  have hm4 := (Rd.of_own hown4 (by omega)).mono (F' := fun k => k < w4.heap.size) fun k hk h => hk
  clear hown4
  have HM4 := Lib.hid hm4
  clear hm4
  go_wp2_with fail
  refine (own_calls A l c _ _ (HA.out.belowB a4 fun k hk => hk) (by omega)).mono ?_
  rintro e w5 ⟨A5, c5, rfl, hown5, hb5⟩
  go_wp2_with fail
  have H6 := refBlock_calls w4.heap.size A5 B l p c5 d w5 (fun k => k < w.heap.size) hown5 hb5.size ((HB.out.belowB a4 fun k hk => hk).below hb5) (fun k hk => by have := a4.size; omega) (by omega) (by omega)
  rw [← HU.out] at H6
  refine H6.mono ?_
  clear H6
  rintro e w6 ⟨A6, c6, rfl, hown6, hb6⟩
  have a6 : Below w.heap.size w w6 := below_then a4 (hb5.trans hb6) (Nat.le_refl _)
  have hm6 := (Rd.of_own hown6 (by omega)).mono (F' := fun k => k < w6.heap.size) fun k hk h => hk
  have hm46 := HM4.out.belowB (hb5.trans hb6) fun k hk => hk
  have HM6 := Lib.hid hm6
  have HM46 := Lib.hid (hm46.mono (F' := fun k => k < w6.heap.size) fun k hk _ => hk)
  have HA6 := Lib.hid ((HA.out.belowB a6 fun k hk => hk).mono (F' := fun k => k < w6.heap.size) fun k hk _ => hk)
  have HB6 := Lib.hid ((HB.out.belowB a6 fun k hk => hk).mono (F' := fun k => k < w6.heap.size) fun k hk _ => hk)
  clear hm6 hm46 HM4 hown5 hown6 hb5 hb6 a3 a4 HA HB
  have hqv : (str v).toList = v := str_toList v
  have hqu : (str u).toList = u := str_toList u
  go_wp2_with fail
  have hcc2 := Lib.hid hc
  refine region_lastG (T := putsT) (J := putsJ w6.heap.size) putsT_trans putsT_refl (prOfG_st [
    .is (.slice A l.length c), .bytesB l, .is (.int .u64 (x : Int)), .bytesB v, .is (.string (str v)), .is (.slice A l.length c), .ownB l, .is (.int .u64 (x : Int)), .bytes2 v, .is2 (.string (str v)), .is2 (.bool true), .is2 (.bool true),
    .is (.slice A4 u.length c4), .is (.string (str u)), .is (.slice A6 u.length c6), .is (.string (str u)), .is (.bool true), .is2 (.bool true), .is2 (.bool true), .is (.int .i64 0), .is (.int .i64 0), .is (.bool true), .is2 (.bool true), .is2 (.bool true),
    .is (.slice A l.length c), .is (.slice B p.length d), .listsB [l, p], .is (.int .u32 (crc (l ++ p) : Int)), .is (.slice A l.length c), .is (.slice B p.length d), .listsB [l, p], .is (.int .u32 (crc (l ++ p) : Int)), .is (.bool true), .is (.bool true), .is (.bool true)])
    (no_none (by kernel_rfl)) (w6.heap.size, 0) (by kernel_rfl) (by kernel_rfl) (by kernel_rfl) ⟨Nat.le_refl _, Nat.le_refl _, rfl, (fun h => h), (fun h => h), fun h => h⟩ ?_ ?_
  · refine ⟨?_, ?_, ?_, ?_, ?_, ?_, ?_, ?_, ?_, ?_, ?_, ?_, ?_, ?_, ?_, ?_, ?_, ?_, ?_, ?_, ?_, ?_, ?_, ?_, ?_, ?_, ?_, ?_, ?_, ?_, ?_, ?_, ?_, ?_, ?_, trivial⟩
    · refine owes_plainG rfl fun dn a W γ hT hdn hdp hJ hf hd => ?_
      have e0 := hf 0 rfl
      exact step_val (w' := W) (by simp only [execOp]; go_simp) ⟨γ, putsT_refl _ _, putsJ_same (by decide) hJ, rfl⟩
    · refine owes_plainG rfl fun dn a W γ hT hdn hdp hJ hf hd => ?_
      obtain ⟨v0, e0, rfl⟩ := hd 0 rfl
      obtain ⟨j1, j2, j3, j4, j5, j6⟩ := hJ
      have d3 : dn 3 = false := by cases h : dn 3; rfl; have := j5 h; rw [hdn] at this; cases this
      have d6 : dn 6 = false := by cases h : dn 6; rfl; have := j4 h; rw [d3] at this; cases this
      have d8 : dn 8 = false := by cases h : dn 8; rfl; have := j6 h; rw [d6] at this; cases this
      rw [d6, d8] at j3
      refine step_call (w' := W) (f := 17) (args := #[.slice A l.length c]) (by simp only [execOp]; go_simp) ?_
      refine (own_calls A l c W _ (HA6.out.drew.belowB hT.2.2.2.1 fun k hk => hk) (by omega)).mono ?_
      rintro e w' ⟨A7, c7, rfl, hown, hb⟩
      have hsz := hb.size
      exact ⟨_, rfl, (w'.heap.size, γ.2), ⟨Nat.le_trans j1 hb.size, Nat.le_refl _, (fun h => h), hb.mono j1, fun h => by rw [j3] at h; cases h⟩, ⟨Nat.le_refl _, Nat.le_trans j2 (Nat.le_trans j1 hb.size), by simp [did, d6, d8, j3], by simp [did, d6], by simp [did], by simp [did, d8]⟩, A7, c7, rfl, (Rd.of_own hown (by omega)).mono fun k hk h => hk, by obtain ⟨_, _, e1, e2, _⟩ := own_shape hown; injection e1 with _ _ e1; rw [e1]; exact e2⟩
    · refine owes_plainG rfl fun dn a W γ hT hdn hdp hJ hf hd => ?_
      have e1 := hf 1 rfl
      exact step_val (w' := W) (by simp only [execOp]; go_simp) ⟨γ, putsT_refl _ _, putsJ_same (by decide) hJ, rfl⟩
    · refine owes_plainG rfl fun dn a W γ hT hdn hdp hJ hf hd => ?_
      obtain ⟨v1, e1, A1, c1, rfl, hr1, hc1⟩ := hd 1 rfl
      obtain ⟨v2, e2, rfl⟩ := hd 2 rfl
      have d1 := hdp 1 rfl
      obtain ⟨j1, j2, j3, j4, j5, j6⟩ := hJ
      have d6 : dn 6 = false := by cases h : dn 6; rfl; have := j4 h; rw [hdn] at this; cases this
      have d8 : dn 8 = false := by cases h : dn 8; rfl; have := j6 h; rw [d6] at this; cases this
      rw [d6, d8] at j3
      refine step_call (w' := W) (f := 13) (args := #[.slice A1 l.length c1, .int .u64 (x : Int)]) (by simp only [execOp]; go_simp) ?_
      have HN := number_calls A1 l c1 x W _ hr1 (by omega) hx
      rw [← HV.out] at HN
      refine HN.mono ?_
      rintro e w' ⟨A7, c7, rfl, hown, hb⟩
      exact ⟨_, rfl, (w'.heap.size, γ.2), ⟨Nat.le_trans j1 hb.size, Nat.le_refl _, (fun h => h), hb.mono j1, fun h => by rw [j3] at h; cases h⟩, ⟨Nat.le_refl _, Nat.le_trans j2 (Nat.le_trans j1 hb.size), by simp [did, d6, d8, j3], by simp [did, d6], by simp [did, d1], by simp [did, d8]⟩, A7, c7, rfl, (Rd.of_own hown (by omega)).mono fun k hk h => hk, by obtain ⟨_, _, e1, e2, _⟩ := own_shape hown; injection e1 with _ _ e1; rw [e1]; exact e2⟩
    · refine owes_plainG rfl fun dn a W γ hT hdn hdp hJ hf hd => ?_
      obtain ⟨v3, e3, A1, c1, rfl, hr1, hc1⟩ := hd 3 rfl
      have hcv := conv_str c1 hr1
      exact step_val (w' := W) (by simp only [execOp]; go_simp) ⟨γ, putsT_refl _ _, putsJ_same (by decide) hJ, rfl⟩
    · refine owes_plainG rfl fun dn a W γ hT hdn hdp hJ hf hd => ?_
      have e0 := hf 0 rfl
      exact step_val (w' := W) (by simp only [execOp]; go_simp) ⟨γ, putsT_refl _ _, putsJ_same (by decide) hJ, rfl⟩
    · refine owes_plainG rfl fun dn a W γ hT hdn hdp hJ hf hd => ?_
      obtain ⟨v5, e5, rfl⟩ := hd 5 rfl
      have d3 := hdp 3 rfl
      obtain ⟨j1, j2, j3, j4, j5, j6⟩ := hJ
      have d8 : dn 8 = false := by cases h : dn 8; rfl; have := j6 h; rw [hdn] at this; cases this
      rw [hdn, d8] at j3
      have d1 := j5 d3
      refine step_call (w' := W) (f := 17) (args := #[.slice A l.length c]) (by simp only [execOp]; go_simp) ?_
      refine (own_calls A l c W _ (HA6.out.drew.belowB hT.2.2.2.1 fun k hk => hk) (by omega)).mono ?_
      rintro e w' ⟨A7, c7, rfl, hown, hb⟩
      exact ⟨_, rfl, (W.heap.size, 1), ⟨j1, by rw [j3]; simp, (fun h => by rw [j3] at h; cases h), hb.mono j1, fun h => by rw [j3] at h; cases h⟩, ⟨hb.size, Nat.le_trans j2 j1, by simp [did, d8], by simp [did, d3], by simp [did, d1], by simp [did, d8]⟩, Nat.le_refl _, fun _ => ⟨A7, c7, rfl, hown⟩⟩
    · refine owes_plainG rfl fun dn a W γ hT hdn hdp hJ hf hd => ?_
      have e1 := hf 1 rfl
      exact step_val (w' := W) (by simp only [execOp]; go_simp) ⟨γ, putsT_refl _ _, putsJ_same (by decide) hJ, rfl⟩
    · refine owes_plainG rfl fun dn a W γ hT hdn hdp hJ hf hd => ?_
      obtain ⟨v6, e6, h61, h62⟩ := hd 6 rfl
      obtain ⟨v7, e7, rfl⟩ := hd 7 rfl
      have d6 := hdp 6 rfl
      obtain ⟨j1, j2, j3, j4, j5, j6⟩ := hJ
      rw [d6, hdn] at j3
      have d3 := j4 d6
      have d1 := j5 d3
      obtain ⟨A1, c1, rfl, hown1⟩ := h62 j3
      refine step_call (w' := W) (f := 19) (args := #[.slice A1 l.length c1, .int .u64 (x : Int)]) (by simp only [execOp]; go_simp) ?_
      have HN := refNumber_calls γ.1 A1 l c1 x W hown1 j1 (by omega) hx
      rw [← HV.out] at HN
      refine HN.mono ?_
      rintro e w' ⟨A7, c7, rfl, hown, hb⟩
      exact ⟨_, rfl, (w'.heap.size, 2), ⟨Nat.le_trans j1 hb.size, by rw [j3]; simp, (fun h => rfl), hb, fun _ h => by cases h⟩, ⟨Nat.le_refl _, Nat.le_trans j2 (Nat.le_trans j1 hb.size), by simp [did], by simp [did, d3], by simp [did, d1], by simp [did, d6]⟩, ⟨A7, c7, rfl, (Rd.of_own hown (by omega)).mono fun k hk h => hk, by obtain ⟨_, _, e1, e2, _⟩ := own_shape hown; injection e1 with _ _ e1; rw [e1]; exact e2⟩, rfl⟩
    · refine owes_plainG rfl fun dn a W γ hT hdn hdp hJ hf hd => ?_
      obtain ⟨v8, e8, ⟨A1, c1, rfl, hr1, hc1⟩, h2⟩ := hd 8 rfl
      have hcv := conv_str c1 hr1
      exact step_val (w' := W) (by simp only [execOp]; go_simp) ⟨γ, putsT_refl _ _, putsJ_same (by decide) hJ, rfl, h2⟩
    · refine owes_plainG rfl fun dn a W γ hT hdn hdp hJ hf hd => ?_
      obtain ⟨v4, e4, rfl⟩ := hd 4 rfl
      obtain ⟨v9, e9, rfl, z9⟩ := hd 9 rfl
      exact step_val (w' := W) (by simp only [execOp]; go_simp) ⟨γ, putsT_refl _ _, putsJ_same (by decide) hJ, ⟨rfl, z9⟩⟩
    · refine owes_plainG rfl fun dn a W γ hT hdn hdp hJ hf hd => ?_
      obtain ⟨v10, e10, rfl, z10⟩ := hd 10 rfl
      exact step_val (w' := W) (by simp only [execOp]; go_simp) ⟨γ, putsT_refl _ _, putsJ_same (by decide) hJ, ⟨rfl, z10⟩⟩
    · refine owes_ifG rfl rfl (fun v w γ h => h.1) fun dn a W γ hT hdn hdp hJ hf hd => ?_
      have e7 := hf 7 rfl
      exact step_val (w' := W) (by simp only [execOp]; go_simp) ⟨γ, putsT_refl _ _, putsJ_same (by decide) hJ, rfl⟩
    · refine owes_ifG rfl rfl (fun v w γ h => h.1) fun dn a W γ hT hdn hdp hJ hf hd => ?_
      obtain ⟨v12, e12, rfl⟩ := hd 12 rfl
      have hcv := conv_str c4 (HM46.out.drew.belowB hT.2.2.2.1 fun k hk => hk)
      exact step_val (w' := W) (by simp only [execOp]; go_simp) ⟨γ, putsT_refl _ _, putsJ_same (by decide) hJ, rfl⟩
    · refine owes_ifG rfl rfl (fun v w γ h => h.1) fun dn a W γ hT hdn hdp hJ hf hd => ?_
      have e9 := hf 9 rfl
      exact step_val (w' := W) (by simp only [execOp]; go_simp) ⟨γ, putsT_refl _ _, putsJ_same (by decide) hJ, rfl⟩
    · refine owes_ifG rfl rfl (fun v w γ h => h.1) fun dn a W γ hT hdn hdp hJ hf hd => ?_
      obtain ⟨v14, e14, rfl⟩ := hd 14 rfl
      have hcv := conv_str c6 (HM6.out.drew.belowB hT.2.2.2.1 fun k hk => hk)
      exact step_val (w' := W) (by simp only [execOp]; go_simp) ⟨γ, putsT_refl _ _, putsJ_same (by decide) hJ, rfl⟩
    · refine owes_ifG rfl rfl (fun v w γ h => h.1) fun dn a W γ hT hdn hdp hJ hf hd => ?_
      obtain ⟨v13, e13, rfl⟩ := hd 13 rfl
      obtain ⟨v15, e15, rfl⟩ := hd 15 rfl
      exact step_val (w' := W) (by simp only [execOp]; go_simp) ⟨γ, putsT_refl _ _, putsJ_same (by decide) hJ, rfl⟩
    · refine owes_plainG rfl fun dn a W γ hT hdn hdp hJ hf hd => ?_
      obtain ⟨v11, e11, rfl, z11⟩ := hd 11 rfl
      obtain ⟨v16, e16, rfl⟩ := hd 16 rfl
      exact step_val (w' := W) (by simp only [execOp]; go_simp) ⟨γ, putsT_refl _ _, putsJ_same (by decide) hJ, ⟨rfl, z11⟩⟩
    · refine owes_plainG rfl fun dn a W γ hT hdn hdp hJ hf hd => ?_
      obtain ⟨v17, e17, rfl, z17⟩ := hd 17 rfl
      exact step_val (w' := W) (by simp only [execOp]; go_simp) ⟨γ, putsT_refl _ _, putsJ_same (by decide) hJ, ⟨rfl, z17⟩⟩
    · refine owes_ifG rfl rfl (fun v w γ h => h.1) fun dn a W γ hT hdn hdp hJ hf hd => ?_
      have e8 := hf 8 rfl
      exact step_val (w' := W) (by simp only [execOp]; go_simp) ⟨γ, putsT_refl _ _, putsJ_same (by decide) hJ, rfl⟩
    · refine owes_ifG rfl rfl (fun v w γ h => h.1) fun dn a W γ hT hdn hdp hJ hf hd => ?_
      have e10 := hf 10 rfl
      exact step_val (w' := W) (by simp only [execOp]; go_simp) ⟨γ, putsT_refl _ _, putsJ_same (by decide) hJ, rfl⟩
    · refine owes_ifG rfl rfl (fun v w γ h => h.1) fun dn a W γ hT hdn hdp hJ hf hd => ?_
      obtain ⟨v19, e19, rfl⟩ := hd 19 rfl
      obtain ⟨v20, e20, rfl⟩ := hd 20 rfl
      exact step_val (w' := W) (by simp only [execOp]; go_simp) ⟨γ, putsT_refl _ _, putsJ_same (by decide) hJ, rfl⟩
    · refine owes_plainG rfl fun dn a W γ hT hdn hdp hJ hf hd => ?_
      obtain ⟨v18, e18, rfl, z18⟩ := hd 18 rfl
      obtain ⟨v21, e21, rfl⟩ := hd 21 rfl
      exact step_val (w' := W) (by simp only [execOp]; go_simp) ⟨γ, putsT_refl _ _, putsJ_same (by decide) hJ, ⟨rfl, z18⟩⟩
    · refine owes_plainG rfl fun dn a W γ hT hdn hdp hJ hf hd => ?_
      obtain ⟨v22, e22, rfl, z22⟩ := hd 22 rfl
      exact step_val (w' := W) (by simp only [execOp]; go_simp) ⟨γ, putsT_refl _ _, putsJ_same (by decide) hJ, ⟨rfl, z22⟩⟩
    · refine owes_ifG rfl rfl (fun v w γ h => h.1) fun dn a W γ hT hdn hdp hJ hf hd => ?_
      have e0 := hf 0 rfl
      exact step_val (w' := W) (by simp only [execOp]; go_simp) ⟨γ, putsT_refl _ _, putsJ_same (by decide) hJ, rfl⟩
    · refine owes_ifG rfl rfl (fun v w γ h => h.1) fun dn a W γ hT hdn hdp hJ hf hd => ?_
      have e2 := hf 2 rfl
      exact step_val (w' := W) (by simp only [execOp]; go_simp) ⟨γ, putsT_refl _ _, putsJ_same (by decide) hJ, rfl⟩
    · refine owes_ifG rfl rfl (fun v w γ h => h.1) fun dn a W γ hT hdn hdp hJ hf hd => ?_
      obtain ⟨v1, e1, rfl⟩ := hd 24 rfl
      obtain ⟨v2, e2, rfl⟩ := hd 25 rfl
      have d23 := hd 23 rfl
      obtain ⟨v3, e3, _, h2⟩ := d23
      have hj := hJ.1
      have hj2 := hJ.2.1
      refine step_val (w' := W.alloc (.cells #[.slice A l.length c, .slice B p.length d] 24)) (v := .slice (some ⟨W.heap.size, 0, none⟩) 2 2) (by simp only [execOp]; go_simp) ⟨(W.heap.size + 1, γ.2), ⟨Nat.le_trans hj (Nat.le_succ _), Nat.le_refl _, (fun h => h), (Below.refl _ _).alloc hj _, fun h => by rw [h2] at h; cases h⟩, putsJ_keep (w' := W.alloc (.cells #[.slice A l.length c, .slice B p.length d] 24)) (by decide) hJ (W.heap.size + 1) (by simp) (by omega), _, 2, rfl, ?_, Nat.le_refl _⟩
      refine (rdl_two 24 ((HA6.out.drew.belowB hT.2.2.2.1 fun k hk => hk)) hc ((HB6.out.drew.belowB hT.2.2.2.1 fun k hk => hk)) hd' rfl).mono fun k _ h => ?_
      have : w6.heap.size ≤ W.heap.size := Nat.le_trans hj2 hj
      rcases h with h | h
      · exact Nat.lt_succ_of_le (Nat.le_trans (Nat.le_of_lt h) this)
      · rw [h]; exact Nat.lt_succ_self _
    · refine owes_ifG rfl rfl (fun v w γ h => h.1) fun dn a W γ hT hdn hdp hJ hf hd => ?_
      obtain ⟨v26, e26, A1, c1, rfl, hr1, hc1⟩ := hd 26 rfl
      refine step_call (w' := W) (f := 20) (args := #[.slice A1 2 c1]) (by simp only [execOp]; go_simp) ?_
      have hj1 := hJ.1
      refine (sum_calls A1 [l, p] c1 W _ hr1 (by simp) (by simp; omega)).mono ?_
      rintro e w' ⟨rfl, hb⟩
      exact ⟨_, rfl, γ, ⟨Nat.le_refl _, Nat.le_refl _, (fun h => h), hb.mono hj1, fun _ _ => ⟨rfl, hb⟩⟩, putsJ_keep (by decide) hJ γ.1 (Nat.le_trans hj1 hb.size) (Nat.le_refl _), by show _ = _; simp⟩
    · refine owes_ifG rfl rfl (fun v w γ h => h.1) fun dn a W γ hT hdn hdp hJ hf hd => ?_
      have e0 := hf 0 rfl
      exact step_val (w' := W) (by simp only [execOp]; go_simp) ⟨γ, putsT_refl _ _, putsJ_same (by decide) hJ, rfl⟩
    · refine owes_ifG rfl rfl (fun v w γ h => h.1) fun dn a W γ hT hdn hdp hJ hf hd => ?_
      have e2 := hf 2 rfl
      exact step_val (w' := W) (by simp only [execOp]; go_simp) ⟨γ, putsT_refl _ _, putsJ_same (by decide) hJ, rfl⟩
    · refine owes_ifG rfl rfl (fun v w γ h => h.1) fun dn a W γ hT hdn hdp hJ hf hd => ?_
      obtain ⟨v1, e1, rfl⟩ := hd 28 rfl
      obtain ⟨v2, e2, rfl⟩ := hd 29 rfl
      have d23 := hd 23 rfl
      obtain ⟨v3, e3, _, h2⟩ := d23
      have hj := hJ.1
      have hj2 := hJ.2.1
      refine step_val (w' := W.alloc (.cells #[.slice A l.length c, .slice B p.length d] 24)) (v := .slice (some ⟨W.heap.size, 0, none⟩) 2 2) (by simp only [execOp]; go_simp) ⟨(W.heap.size + 1, γ.2), ⟨Nat.le_trans hj (Nat.le_succ _), Nat.le_refl _, (fun h => h), (Below.refl _ _).alloc hj _, fun h => by rw [h2] at h; cases h⟩, putsJ_keep (w' := W.alloc (.cells #[.slice A l.length c, .slice B p.length d] 24)) (by decide) hJ (W.heap.size + 1) (by simp) (by omega), _, 2, rfl, ?_, Nat.le_refl _⟩
      refine (rdl_two 24 ((HA6.out.drew.belowB hT.2.2.2.1 fun k hk => hk)) hc ((HB6.out.drew.belowB hT.2.2.2.1 fun k hk => hk)) hd' rfl).mono fun k _ h => ?_
      have : w6.heap.size ≤ W.heap.size := Nat.le_trans hj2 hj
      rcases h with h | h
      · exact Nat.lt_succ_of_le (Nat.le_trans (Nat.le_of_lt h) this)
      · rw [h]; exact Nat.lt_succ_self _
    · refine owes_ifG rfl rfl (fun v w γ h => h.1) fun dn a W γ hT hdn hdp hJ hf hd => ?_
      obtain ⟨v30, e30, A1, c1, rfl, hr1, hc1⟩ := hd 30 rfl
      refine step_call (w' := W) (f := 21) (args := #[.slice A1 2 c1]) (by simp only [execOp]; go_simp) ?_
      refine (refSum_calls A1 [l, p] c1 W _ hr1 (by simp) (by simp; omega)).mono ?_
      rintro e w' ⟨rfl, rfl⟩
      exact ⟨_, rfl, γ, putsT_refl _ _, putsJ_same (by decide) hJ, by show _ = _; simp⟩
    · refine owes_ifG rfl rfl (fun v w γ h => h.1) fun dn a W γ hT hdn hdp hJ hf hd => ?_
      obtain ⟨v27, e27, rfl⟩ := hd 27 rfl
      obtain ⟨v31, e31, rfl⟩ := hd 31 rfl
      exact step_val (w' := W) (by simp only [execOp]; go_simp) ⟨γ, putsT_refl _ _, putsJ_same (by decide) hJ, rfl⟩
    · refine owes_plainG rfl fun dn a W γ hT hdn hdp hJ hf hd => ?_
      obtain ⟨v23, e23, rfl, z23⟩ := hd 23 rfl
      obtain ⟨v32, e32, rfl⟩ := hd 32 rfl
      exact step_val (w' := W) (by simp only [execOp]; go_simp) ⟨γ, putsT_refl _ _, putsJ_same (by decide) hJ, rfl⟩
    · refine owes_plainG rfl fun dn a W γ hT hdn hdp hJ hf hd => ?_
      obtain ⟨v33, e33, rfl⟩ := hd 33 rfl
      exact step_val (w' := W) (by simp only [execOp]; go_simp) ⟨γ, putsT_refl _ _, putsJ_same (by decide) hJ, rfl⟩
  · intro aE wE γE hTE hJE hsz hdf hfr hp
    obtain ⟨v34, e34, rfl⟩ := hp 34 rfl
    clear hp hfr hsz
    go_wp2
    refine bodyPost_ret (results_tmp rfl _ _ _) hdf ?_
    exact ⟨by rw [Array.getD_eq_getD_getElem?, e34], below_then (w1 := w6.drew) a6.drew hTE.2.2.2.1 (Nat.le_refl _)⟩

set_option maxHeartbeats 1000000 in
theorem puts_out (w : World) (A : Option Addr) (l : List UInt8) (c : Nat) (x : Nat) (B : Option Addr) (p : List UInt8) (d : Nat) (hm : c ≤ maxLen) (hc : l.length ≤ c) (hm2 : d ≤ maxLen) (hd' : p.length ≤ d) (h : 3000 < l.length ∨ (l.length ≤ 3000 ∧ 3000 < p.length)) :
    Calls Try.prog 4 #[.slice A l.length c, .int .u64 (x : Int), .slice B p.length d] w fun e w' => e = .returned (.bool true) ∧ Below w.heap.size w w' := by
  have hm1 : l.length < 9223372036854775808 := by simp [maxLen] at hm; omega
  have hm3 : p.length < 9223372036854775808 := by simp [maxLen] at hm2; omega
  clear hm hm2
  go_enter Try.func4, Try.ntmps4
  go_wp2_with fail
  refine (lives1 _).mono ?_
  rintro e w1 ⟨rfl, hb1⟩
  rcases h with h | ⟨h, h'⟩
  all_goals
    go_wp2
    go_ret
    exact ⟨rfl, hb1⟩

theorem octetPuts_walk (w : World) (A : Option Addr) (l : List UInt8) (c : Nat) (hr : Rd w (fun k => k < w.heap.size) A (bc l)) (hc : l.length ≤ c) (hm : c ≤ maxLen) (x : Nat) (hx : x < 18446744073709551616) (B : Option Addr) (p : List UInt8) (d : Nat) (hs : Rd w (fun k => k < w.heap.size) B (bc p)) (hd' : p.length ≤ d) (hm2 : d ≤ maxLen) :
    Calls Try.prog 4 #[.slice A l.length c, .int .u64 (x : Int), .slice B p.length d] w fun e w' => e = .returned (.bool true) ∧ Below w.heap.size w w' := by
  by_cases h : l.length ≤ 3000 ∧ p.length ≤ 3000
  · exact puts_go w A l c hr hc x hx B p d hs hd' h.1 h.2
  · exact puts_out w A l c x B p d hm hc hm2 hd' (by omega)
end Go.Proofs.Ytfkbmnlohaghbaa
