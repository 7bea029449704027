/- The walk of the law OctetBack. No condition. -/
import Derived.Test.YtfkbmnlohaghbaaLives1
import Derived.Test.YtfkbmnlohaghbaaKit
import Derived.Test.YtfkbmnlohaghbaaRegion2
import Derived.Test.YtfkbmnlohaghbaaRegionG
import Derived.Test.YtfkbmnlohaghbaaPlain4
namespace Go.Proofs.Ytfkbmnlohaghbaa
set_option linter.unusedVariables false
set_option linter.unusedSimpArgs false
open Go.RowKit

/-- The cells of a list of numbers. -/
def uc (xs : List Nat) : List Value := xs.map fun (n : Nat) => .int .u64 (n : Int)
theorem uc_get (xs : List Nat) (j : Nat) (h : j < xs.length) : (uc xs)[j]? = some (.int .u64 (xs[j] : Int)) := by simp [uc, h]
theorem uc_length (xs : List Nat) : (uc xs).length = xs.length := by simp [uc]

theorem rdl_drew {w : World} {F : Nat → Prop} {A : Option Addr} {ls : List (List UInt8)} (h : RdL w F A ls) : RdL w.drew F A ls := h
/-- How the world may turn where two readers are made: new memory alone; a reader's blocks, once they are known, stay its own. -/
def twoT (w : World) (γ : (Nat → Prop) × (Nat → Prop)) (w' : World) (γ' : (Nat → Prop) × (Nat → Prop)) : Prop := NewMem w w' ∧ ((∃ k, γ.1 k) → γ'.1 = γ.1) ∧ ((∃ k, γ.2 k) → γ'.2 = γ.2)
theorem twoT_refl (w : World) (γ : (Nat → Prop) × (Nat → Prop)) : twoT w γ w γ := ⟨NewMem.refl _, fun _ => rfl, fun _ => rfl⟩
theorem twoT_trans (a : World) (α : (Nat → Prop) × (Nat → Prop)) (b : World) (β : (Nat → Prop) × (Nat → Prop)) (c : World) (δ : (Nat → Prop) × (Nat → Prop)) (h : twoT a α b β) (k : twoT b β c δ) : twoT a α c δ := by
  obtain ⟨h1, h2, h3⟩ := h
  obtain ⟨k1, k2, k3⟩ := k
  refine ⟨NewMem.trans _ _ _ h1 k1, fun e => ?_, fun e => ?_⟩
  · have := h2 e
    rw [k2 (by rw [this]; exact e), this]
  · have := h3 e
    rw [k3 (by rw [this]; exact e), this]
def twoJ (B : Nat) (dn : Nat → Bool) (w : World) (γ : (Nat → Prop) × (Nat → Prop)) : Prop :=
  (dn 1 = false → ∀ k, ¬ γ.1 k) ∧ (dn 8 = false → ∀ k, ¬ γ.2 k) ∧ (∀ k, γ.1 k → B ≤ k ∧ k < w.heap.size) ∧ (∀ k, γ.2 k → B ≤ k ∧ k < w.heap.size) ∧ ∀ k, γ.1 k → ¬ γ.2 k
theorem twoJ_same {B : Nat} {dn : Nat → Bool} {w : World} {γ : (Nat → Prop) × (Nat → Prop)} {i : Nat} (hi : i ≠ 1 ∧ i ≠ 8) (h : twoJ B dn w γ) : twoJ B (did dn i) w γ := by
  obtain ⟨h1, h2, h3⟩ := h
  refine ⟨fun e => h1 ?_, fun e => h2 ?_, h3⟩
  · simpa only [did, if_neg (Ne.symm hi.1)] using e
  · simpa only [did, if_neg (Ne.symm hi.2)] using e
def PrG.rdr1 (l : List UInt8) : PrG twoT := ⟨fun v w γ => ∃ g, v = .pointer (some ⟨g, 0, none⟩) ∧ Rdr w γ.1 g l 0, fun _ _ _ _ _ ⟨g, e, h⟩ ht => ⟨g, e, by rw [ht.2.1 ⟨g, h.1⟩]; exact h.below ht.1⟩⟩
def PrG.rdr2 (l : List UInt8) : PrG twoT := ⟨fun v w γ => ∃ g, v = .pointer (some ⟨g, 0, none⟩) ∧ Rdr w γ.2 g l 0, fun _ _ _ _ _ ⟨g, e, h⟩ ht => ⟨g, e, by rw [ht.2.2 ⟨g, h.1⟩]; exact h.below ht.1⟩⟩

/-- How the world may turn where one reader takes its turn: its own blocks alone, and these just once. -/
def oneT (F : Nat → Prop) (w : World) (γ : Bool) (w' : World) (γ' : Bool) : Prop := Fr F w w' ∧ (γ = true → γ' = true) ∧ (γ = γ' → NewMem w w')
theorem oneT_refl {F : Nat → Prop} (w : World) (γ : Bool) : oneT F w γ w γ := ⟨Fr.refl _ _, fun h => h, fun _ => NewMem.refl _⟩
theorem oneT_trans {F : Nat → Prop} (a : World) (α : Bool) (b : World) (β : Bool) (c : World) (δ : Bool) (h : oneT F a α b β) (k : oneT F b β c δ) : oneT F a α c δ := by
  obtain ⟨h1, h2, h3⟩ := h
  obtain ⟨k1, k2, k3⟩ := k
  refine ⟨h1.trans k1, fun e => k2 (h2 e), fun e => ?_⟩
  subst e
  have hβ : α = β := by
    cases α with
    | true => exact (h2 rfl).symm
    | false =>
      cases β with
      | true => exact (k2 rfl)
      | false => rfl
  exact NewMem.trans _ _ _ (h3 hβ) (k3 hβ.symm)
def oneJ (dn : Nat → Bool) (w : World) (γ : Bool) : Prop := γ = dn 1
theorem oneJ_same {dn : Nat → Bool} {w : World} {γ : Bool} {i : Nat} (hi : i ≠ 1) (h : oneJ dn w γ) : oneJ (did dn i) w γ := by
  unfold oneJ at *
  rw [h]
  simp only [did, if_neg (Ne.symm hi)]
def PrG.got {F : Nat → Prop} (x : Value) (g : Nat) (m : List UInt8) (e : Nat) : PrG (oneT F) := ⟨fun v w γ => γ = true ∧ v = x ∧ Rdr w F g m e, fun _ _ _ _ _ ⟨h, e, hr⟩ ht => ⟨ht.2.1 h, e, hr.below (ht.2.2 (by rw [h, ht.2.1 h]))⟩⟩
def PrG.gotB {F : Nat → Prop} (l : List UInt8) (g : Nat) (m : List UInt8) (e : Nat) : PrG (oneT F) := ⟨fun v w γ => γ = true ∧ (∃ A c, v = .slice A l.length c ∧ Rd w (fun _ => True) A (bc l)) ∧ Rdr w F g m e, fun _ _ _ _ _ ⟨h, ⟨A, c, e, hv⟩, hr⟩ ht => ⟨ht.2.1 h, ⟨A, c, e, hv.below (ht.2.2 (by rw [h, ht.2.1 h]))⟩, hr.below (ht.2.2 (by rw [h, ht.2.1 h]))⟩⟩

set_option maxHeartbeats 4000000 in
theorem back_go (w : World) (A : Option Addr) (xs : List Nat) (c : Nat) (hr : Rd w (fun k => k < w.heap.size) A (uc xs)) (hx : ∀ x ∈ xs, x < 18446744073709551616) (B : Option Addr) (ls : List (List UInt8)) (d : Nat) (hs : RdL w (fun k => k < w.heap.size) B ls) (hlm : ∀ l ∈ ls, l.length ≤ 9223372036854775807)
    (hx3 : xs.length ≤ 50) (hB : lightB ls 50 3000 = true) (hls : ls.length ≤ 9223372036854775807) :
    Calls Try.prog 7 #[.slice A xs.length c, .slice B ls.length d] w fun e w' => e = .returned (.bool true) ∧ Below w.heap.size w w' := by
  have HA := Lib.hid hr
  have HB := Lib.hid hs
  have HX := Lib.hid hx
  obtain ⟨hl50, hl30⟩ := lightB_true hB
  have HL := Lib.hid hl30
  have HLM := Lib.hid hlm
  clear hr hs hx hl30 hlm
  go_enter Try.func7, Try.ntmps7
  go_wp2_with fail
  refine (lives1 _).mono ?_
  rintro e w1 ⟨rfl, hb1⟩
  go_wp2_with fail
  have H2 := light_calls B ls d 50 3000 w1 _ (HB.out.below hb1) hls HLM.out (by omega) (by omega)
  rw [hB] at H2
  refine H2.mono ?_
  clear H2 hB
  rintro e w' ⟨rfl, rfl⟩
  have HA1 := Lib.hid (HA.out.below hb1)
  have HB1 := Lib.hid (HB.out.below hb1)
  obtain ⟨tot, htot⟩ : ∃ t, t = rowsOf xs ls 50 0 := ⟨_, rfl⟩
  have htl : tot.length ≤ 150900 := by rw [htot]; exact rowsOf_length xs ls HX.out HL.out 50 0
  have HT := Lib.hid htot
  clear HA HB htot
  go_wp2_with fail
  go_loopw [5, 6] (fun b i wr => ∃ (j : Nat) (q : List UInt8) (A' : Option Addr) (c' : Nat), j ≤ 50 ∧ i = .int .i64 j ∧ b = .slice A' q.length c' ∧ Hid (q ++ rowsOf xs ls (50 - j) j = tot) ∧ Hid (q.length ≤ c') ∧ Hid (Rd wr (fun k => k < wr.heap.size) A' (bc q)) ∧ Hid (Rd wr (fun k => k < w.heap.size) A (uc xs)) ∧ Hid (RdL wr (fun k => k < w.heap.size) B ls) ∧ Below w.heap.size w wr) (fun _ i _ => 50 - (intOf i).toNat)
  case atStart => exact ⟨0, [], none, 0, by omega, rfl, rfl, HT.out.symm, Nat.le_refl _, Rd.nil _ _ _, HA1, HB1, hb1⟩
  case round =>
    obtain ⟨j, q, A', c', hj, rfl, rfl, hq, hqc, hQ, hX, hY, hbel⟩ := hrel
    by_cases hlt : j < 50
    · have e50 : 50 - j = (50 - (j + 1)) + 1 := by omega
      have hq' := hq.out
      rw [e50] at hq'
      simp only [rowsOf] at hq'
      obtain ⟨rst, hrst⟩ : ∃ r, r = rowsOf xs ls (50 - (j + 1)) (j + 1) := ⟨_, rfl⟩
      rw [← hrst] at hq'
      have hql : q.length ≤ 150900 := by have := congrArg List.length hq'; rw [List.length_append] at this; omega
      have HQ' := Lib.hid hq'
      have HRST := Lib.hid hrst
      clear hq' hrst e50 hq
      by_cases hx : j < xs.length
      · obtain ⟨b1, off1, rfl, hbb1, hcell1⟩ := Rd.form hX.out (by rw [uc_length]; omega)
        have hc1 := hcell1 _ _ (uc_get xs j hx)
        have hnp : nPart xs j = num xs[j] := by unfold nPart; rw [dif_pos hx]
        have hx64 := HX.out _ (List.getElem_mem hx)
        obtain ⟨x, hxe⟩ : ∃ x, x = xs[j] := ⟨_, rfl⟩
        rw [← hxe] at hc1 hnp hx64
        have HNP := Lib.hid hnp
        clear hxe hnp hcell1
        go_wp2_with fail
        have H5 := number_calls A' q c' x wr _ hQ.out (by omega) hx64
        have hnl := num_length x
        have hn8 := nlen_le8 hx64
        obtain ⟨q1, hq1⟩ : ∃ q1, q1 = q ++ num x := ⟨_, rfl⟩
        have hql1 : q1.length ≤ 150909 := by rw [hq1, List.length_append]; omega
        rw [← hq1] at H5
        refine H5.mono ?_
        clear H5
        rintro e w5 ⟨A5, c5, rfl, hown5, hb5⟩
        have a5 := below_then hbel hb5 (Nat.le_refl _)
        have hQ5 := Lib.hid ((Rd.of_own hown5 (by omega)).mono (F' := fun k => k < w5.heap.size) fun k hk h => hk)
        have hqc5 : Hid (q1.length ≤ c5) := by obtain ⟨_, _, e1, e2, _⟩ := own_shape hown5; injection e1 with _ _ e1; show _ ≤ _; rw [e1]; exact e2
        have HQ5 : Hid (q1 ++ (bPart ls j ++ rst) = tot) := by show _ = _; rw [hq1, ← HQ'.out, HNP.out]; simp [List.append_assoc]
        have hX5 := Lib.hid (hX.out.below hb5)
        have hY5 := Lib.hid (hY.out.below hb5)
        clear hown5 hb5 hq1 hc1 hnl hn8
        by_cases hl : j < ls.length
        · obtain ⟨b2, off2, rfl, hb2, hcell2⟩ := RdL.form hY5.out (by omega)
          obtain ⟨a3, c3, hc3, hr3, hlc3⟩ := hcell2 j _ (List.getElem?_eq_getElem hl)
          have hbp : bPart ls j = num ls[j].length ++ ls[j] := by unfold bPart; rw [dif_pos hl]
          have hl30 := HL.out _ (List.getElem_mem hl)
          obtain ⟨l3, hl3⟩ : ∃ l3, l3 = ls[j] := ⟨_, rfl⟩
          rw [← hl3] at hc3 hr3 hlc3 hbp hl30
          have HBP := Lib.hid hbp
          have HR3 := Lib.hid hr3
          clear hl3 hbp hcell2 hr3
          go_wp2_with fail
          refine (own_calls a3 l3 c3 w5 _ HR3.out (by omega)).mono ?_
          rintro e w6 ⟨A6, c6, rfl, hown6, hb6⟩
          go_wp2_with fail
          have H7 := block_calls A5 A6 q1 l3 c5 c6 w6 _ _ (hQ5.out.below hb6) (Rd.of_own hown6 (by omega)) (by omega) (by omega)
          obtain ⟨q2, hq2⟩ : ∃ q2, q2 = q1 ++ num l3.length ++ l3 := ⟨_, rfl⟩
          rw [← hq2] at H7
          refine H7.mono ?_
          clear H7
          rintro e w7 ⟨A7, c7, rfl, hown7, hb7⟩
          have a7 := below_then (below_then a5 hb6 (Nat.le_refl _)) hb7 (Nat.le_refl _)
          have hm7 := Lib.hid ((Rd.of_own hown7 (by omega)).mono (F' := fun k => k < w7.heap.size) fun k hk h => hk)
          have hc7 : Hid (q2.length ≤ c7) := by obtain ⟨_, _, e1, e2, _⟩ := own_shape hown7; injection e1 with _ _ e1; show _ ≤ _; rw [e1]; exact e2
          have HQ2 : Hid (q2 ++ rst = tot) := by show _ = _; rw [hq2, ← HQ5.out, HBP.out]; simp [List.append_assoc]
          have hX7 := Lib.hid (((hX5.out).below hb6).below hb7)
          have hY7 := Lib.hid (((hY5.out).below hb6).below hb7)
          clear hown6 hown7 hb6 hb7 hq2
          go_wp2_with fail
          go_roundw
          case rel => exact ⟨j + 1, q2, A7, c7, by omega, by go_num, rfl, by show _ = _; rw [← HRST.out]; exact HQ2.out, hc7, hm7, hX7, hY7, a7⟩
          case measure => simp [intOf]; omega
        · have HQ2 : Hid (q1 ++ rst = tot) := by
            show _ = _
            have := HQ5.out
            unfold bPart at this
            rw [dif_neg hl, List.nil_append] at this
            exact this
          go_wp2_with fail
          go_roundw
          case rel => exact ⟨j + 1, q1, A5, c5, by omega, by go_num, rfl, by show _ = _; rw [← HRST.out]; exact HQ2.out, hqc5, hQ5, hX5, hY5, a5⟩
          case measure => simp [intOf]; omega
      · have HQ5 : Hid (q ++ (bPart ls j ++ rst) = tot) := by
          show _ = _
          have := HQ'.out
          unfold nPart at this
          rw [dif_neg hx, List.nil_append] at this
          exact this
        by_cases hl : j < ls.length
        · obtain ⟨b2, off2, rfl, hb2, hcell2⟩ := RdL.form hY.out (by omega)
          obtain ⟨a3, c3, hc3, hr3, hlc3⟩ := hcell2 j _ (List.getElem?_eq_getElem hl)
          have hbp : bPart ls j = num ls[j].length ++ ls[j] := by unfold bPart; rw [dif_pos hl]
          have hl30 := HL.out _ (List.getElem_mem hl)
          obtain ⟨l3, hl3⟩ : ∃ l3, l3 = ls[j] := ⟨_, rfl⟩
          rw [← hl3] at hc3 hr3 hlc3 hbp hl30
          have HBP := Lib.hid hbp
          have HR3 := Lib.hid hr3
          clear hl3 hbp hcell2 hr3
          go_wp2_with fail
          refine (own_calls a3 l3 c3 wr _ HR3.out (by omega)).mono ?_
          rintro e w6 ⟨A6, c6, rfl, hown6, hb6⟩
          go_wp2_with fail
          have H7 := block_calls A' A6 q l3 c' c6 w6 _ _ (hQ.out.below hb6) (Rd.of_own hown6 (by omega)) (by omega) (by omega)
          obtain ⟨q2, hq2⟩ : ∃ q2, q2 = q ++ num l3.length ++ l3 := ⟨_, rfl⟩
          rw [← hq2] at H7
          refine H7.mono ?_
          clear H7
          rintro e w7 ⟨A7, c7, rfl, hown7, hb7⟩
          have a7 := below_then (below_then hbel hb6 (Nat.le_refl _)) hb7 (Nat.le_refl _)
          have hm7 := Lib.hid ((Rd.of_own hown7 (by omega)).mono (F' := fun k => k < w7.heap.size) fun k hk h => hk)
          have hc7 : Hid (q2.length ≤ c7) := by obtain ⟨_, _, e1, e2, _⟩ := own_shape hown7; injection e1 with _ _ e1; show _ ≤ _; rw [e1]; exact e2
          have HQ2 : Hid (q2 ++ rst = tot) := by show _ = _; rw [hq2, ← HQ5.out, HBP.out]; simp [List.append_assoc]
          have hX7 := Lib.hid (((hX.out).below hb6).below hb7)
          have hY7 := Lib.hid (((hY.out).below hb6).below hb7)
          clear hown6 hown7 hb6 hb7 hq2
          go_wp2_with fail
          go_roundw
          case rel => exact ⟨j + 1, q2, A7, c7, by omega, by go_num, rfl, by show _ = _; rw [← HRST.out]; exact HQ2.out, hc7, hm7, hX7, hY7, a7⟩
          case measure => simp [intOf]; omega
        · have HQ2 : Hid (q ++ rst = tot) := by
            show _ = _
            have := HQ5.out
            unfold bPart at this
            rw [dif_neg hl, List.nil_append] at this
            exact this
          go_wp2_with fail
          go_roundw
          case rel => exact ⟨j + 1, q, A', c', by omega, by go_num, rfl, by show _ = _; rw [← HRST.out]; exact HQ2.out, hqc, hQ, hX, hY, hbel⟩
          case measure => simp [intOf]; omega
    · have hj50 : j = 50 := by omega
      subst hj50
      have hqt : q = tot := by have := hq.out; simpa [rowsOf] using this
      subst hqt
      clear hq hlt hj
      have hmx : max 0 ((q.length : Int) - 1) = ((q.length - 1 : Nat) : Int) := by omega
      have hmy : (if 0 < (q.length : Int) - 1 then (q.length : Int) - 1 else 0) = ((q.length - 1 : Nat) : Int) := by split <;> omega
      have hmz : (if 1 < (q.length : Int) then (q.length : Int) - 1 else 0) = ((q.length - 1 : Nat) : Int) := by split <;> omega
      have hwq : IntKind.i64.wrap ((q.length : Int) - 1) = (q.length : Int) - 1 := IntWalk.i64_in _ ⟨by omega, by omega⟩
      obtain ⟨m, hm⟩ : ∃ m, m = q.length - 1 := ⟨_, rfl⟩
      rw [← hm] at hmx hmy hmz
      have hmc : m ≤ c' := by have := hqc.out; omega
      have hmq : m ≤ q.length := by omega
      have hdl : q.take m = q.dropLast := by rw [List.dropLast_eq_take, hm]
      have hdll : q.dropLast.length = m := by rw [List.length_dropLast, hm]
      obtain ⟨p, hp⟩ : ∃ p, p = q.dropLast := ⟨_, rfl⟩
      rw [← hp] at hdl hdll
      have HP := Lib.hid hp
      have HM := Lib.hid hm
      have HDLL := Lib.hid hdll
      have hp3 : p.length ≤ 150900 := by omega
      clear hp hm hdll
      go_wp2_with fail
      refine region_toG (T := twoT) (J := twoJ wr.heap.size) twoT_trans twoT_refl (fun _ => False, fun _ => False)
        (fun vs W γ => twoJ wr.heap.size (fun _ => true) W γ ∧ ∃ g1 g2, vs 9 = .pointer (some ⟨g1, 0, none⟩) ∧ vs 10 = .pointer (some ⟨g2, 0, none⟩) ∧ Rdr W γ.1 g1 q 0 ∧ Rdr W γ.2 g2 p 0) (by kernel_rfl) (by kernel_rfl) (by kernel_rfl)
        ⟨fun _ _ h => h, fun _ _ h => h, fun _ h => h.elim, fun _ h => h.elim, fun _ h => h.elim⟩ ?_ ?_
      · refine ⟨prOfG [.is (.slice A' q.length c'), .rdr1 q, .is (.slice A' q.length c'), .is (.slice A' q.length c'), .is (.int .i64 (q.length : Int)), .is (.int .i64 ((q.length : Int) - 1)), .is (.int .i64 (m : Int)), .is (.slice A' m c'), .rdr2 p, .rdr1 q, .rdr2 p], prOfG_st _, no_none (by kernel_rfl), ⟨?_, ?_, ?_, ?_, ?_, ?_, ?_, ?_, ?_, ?_, ?_, trivial⟩, ?_⟩
        · refine owes_plainG rfl fun dn a W γ hT hdn hdp hJ hf hd => ?_
          have e5 := hf 5 rfl
          exact step_val (w' := W) (by simp only [execOp]; go_simp) ⟨γ, twoT_refl _ _, twoJ_same (by decide) hJ, rfl⟩
        · refine owes_plainG rfl fun dn a W γ hT hdn hdp hJ hf hd => ?_
          obtain ⟨v0, e0, rfl⟩ := hd 0 rfl
          obtain ⟨j1, j2, j3, j4, j5⟩ := hJ
          refine step_call (w' := W) (f := 11) (args := #[.slice A' q.length c']) (by simp only [execOp]; go_simp) ?_
          refine (new_calls A' q c' W _ (hQ.out.drew.below hT.1) (by omega)).mono ?_
          rintro e w' ⟨g, rfl, hR, hb⟩
          have hs := hb.size
          have hs2 : wr.heap.size ≤ W.heap.size := hT.1.size
          exact ⟨_, rfl, (fun k => W.heap.size ≤ k ∧ k < w'.heap.size, γ.2), ⟨hb, fun ⟨k, hk⟩ => absurd hk (j1 hdn k), fun _ => rfl⟩, ⟨fun h => by simp [did] at h, fun h => j2 (by simpa [did] using h), fun k hk => ⟨Nat.le_trans hs2 hk.1, hk.2⟩, fun k hk => ⟨(j4 k hk).1, Nat.lt_of_lt_of_le (j4 k hk).2 hs⟩, fun k hk h2 => absurd (j4 k h2).2 (Nat.not_lt.2 hk.1)⟩, g, rfl, hR⟩
        · refine owes_plainG rfl fun dn a W γ hT hdn hdp hJ hf hd => ?_
          have e5 := hf 5 rfl
          exact step_val (w' := W) (by simp only [execOp]; go_simp) ⟨γ, twoT_refl _ _, twoJ_same (by decide) hJ, rfl⟩
        · refine owes_plainG rfl fun dn a W γ hT hdn hdp hJ hf hd => ?_
          have e5 := hf 5 rfl
          exact step_val (w' := W) (by simp only [execOp]; go_simp) ⟨γ, twoT_refl _ _, twoJ_same (by decide) hJ, rfl⟩
        · refine owes_plainG rfl fun dn a W γ hT hdn hdp hJ hf hd => ?_
          obtain ⟨v3, e3, rfl⟩ := hd 3 rfl
          exact step_val (w' := W) (by simp only [execOp]; go_simp) ⟨γ, twoT_refl _ _, twoJ_same (by decide) hJ, rfl⟩
        · refine owes_plainG rfl fun dn a W γ hT hdn hdp hJ hf hd => ?_
          obtain ⟨v4, e4, rfl⟩ := hd 4 rfl
          exact step_val (w' := W) (by simp only [execOp]; go_simp) ⟨γ, twoT_refl _ _, twoJ_same (by decide) hJ, rfl⟩
        · refine owes_plainG rfl fun dn a W γ hT hdn hdp hJ hf hd => ?_
          obtain ⟨v5, e5, rfl⟩ := hd 5 rfl
          exact step_val (w' := W) (by simp only [execOp]; go_simp) ⟨γ, twoT_refl _ _, twoJ_same (by decide) hJ, rfl⟩
        · refine owes_plainG rfl fun dn a W γ hT hdn hdp hJ hf hd => ?_
          obtain ⟨v2, e2, rfl⟩ := hd 2 rfl
          obtain ⟨v6, e6, rfl⟩ := hd 6 rfl
          exact step_val (w' := W) (by simp only [execOp]; go_simp) ⟨γ, twoT_refl _ _, twoJ_same (by decide) hJ, rfl⟩
        · refine owes_plainG rfl fun dn a W γ hT hdn hdp hJ hf hd => ?_
          obtain ⟨v7, e7, rfl⟩ := hd 7 rfl
          obtain ⟨j1, j2, j3, j4, j5⟩ := hJ
          refine step_call (w' := W) (f := 11) (args := #[.slice A' m c']) (by simp only [execOp]; go_simp) ?_
          have hr := hQ.out.take m
          rw [← bc_take, hdl] at hr
          have HN := new_calls A' p c' W _ (hr.drew.below hT.1) (by omega)
          rw [HDLL.out] at HN
          refine HN.mono ?_
          rintro e w' ⟨g, rfl, hR, hb⟩
          have hs := hb.size
          have hs2 : wr.heap.size ≤ W.heap.size := hT.1.size
          exact ⟨_, rfl, (γ.1, fun k => W.heap.size ≤ k ∧ k < w'.heap.size), ⟨hb, fun _ => rfl, fun ⟨k, hk⟩ => absurd hk (j2 hdn k)⟩, ⟨fun h => j1 (by simpa [did] using h), fun h => by simp [did] at h, fun k hk => ⟨(j3 k hk).1, Nat.lt_of_lt_of_le (j3 k hk).2 hs⟩, fun k hk => ⟨Nat.le_trans hs2 hk.1, hk.2⟩, fun k hk h2 => absurd (j3 k hk).2 (Nat.not_lt.2 h2.1)⟩, g, rfl, hR⟩
        · refine owes_plainG rfl fun dn a W γ hT hdn hdp hJ hf hd => ?_
          obtain ⟨v1, e1, g, rfl, hR⟩ := hd 1 rfl
          exact step_val (w' := W) (by simp only [execOp]; go_simp) ⟨γ, twoT_refl _ _, twoJ_same (by decide) hJ, g, rfl, hR⟩
        · refine owes_plainG rfl fun dn a W γ hT hdn hdp hJ hf hd => ?_
          obtain ⟨v8, e8, g, rfl, hR⟩ := hd 8 rfl
          exact step_val (w' := W) (by simp only [execOp]; go_simp) ⟨γ, twoT_refl _ _, twoJ_same (by decide) hJ, g, rfl, hR⟩
        · intro vs W γ _ hJ h
          obtain ⟨g1, e1, h1⟩ := h 9 rfl
          obtain ⟨g2, e2, h2⟩ := h 10 rfl
          exact ⟨⟨fun h => (by cases h), fun h => (by cases h), hJ.2.2⟩, g1, g2, e1, e2, h1, h2⟩
      · rintro vs w3 ⟨F1, F2⟩ hT ⟨hJ, g1, g2, e9, e10, hR1, hR2⟩
        simp only [laid, Nat.reduceAdd, e9, e10]
        obtain ⟨_, _, hF1, hF2, hdis⟩ := hJ
        have a3 : Below w.heap.size w w3 := below_then (w1 := wr.drew) hbel.drew hT.1 (Nat.le_refl _)
        have hX3 := Lib.hid (hX.out.drew.below hT.1)
        have hY3 := Lib.hid ((rdl_drew hY.out).below hT.1)
        have hs3 : w.heap.size ≤ wr.heap.size := hbel.size
        have HF1 := Lib.hid hF1
        have HF2 := Lib.hid hF2
        have HD := Lib.hid hdis
        clear hT e9 e10 hF1 hF2 hdis hbel hX hY hQ
        go_wp2_with fail
        go_loopw [9] (fun i wq => ∃ (j : Nat) (l2 : List UInt8) (e2 : Nat), j ≤ 50 ∧ i = .int .i64 j ∧ Hid (Rdr wq F1 g1 (rowsOf xs ls (50 - j) j) 0) ∧ Hid (Rdr wq F2 g2 l2 e2) ∧ Hid (q ≠ [] → Short l2 e2 (rowsOf xs ls (50 - j) j)) ∧ Hid (Rd wq (fun k => k < w.heap.size) A (uc xs)) ∧ Hid (RdL wq (fun k => k < w.heap.size) B ls) ∧ Below w.heap.size w wq) (fun i _ => 50 - (intOf i).toNat)
        case atStart => exact ⟨0, p, 0, by omega, rfl, by show Rdr _ _ _ _ _; rw [← HT.out]; exact hR1, hR2, fun h0 => Or.inl ⟨rfl, by rw [← HT.out]; exact HP.out, by rw [← HT.out]; exact h0⟩, hX3, hY3, a3⟩
        case round =>
          clear hR1 hR2 hX3 hY3 a3
          obtain ⟨j, l2, e2, hj, rfl, R1, R2, HS, hX, hY, hbel⟩ := hrel
          by_cases hlt : j < 50
          · have e50 : 50 - j = (50 - (j + 1)) + 1 := by omega
            have R1' := R1.out
            have S' := HS.out
            rw [e50] at R1' S'
            simp only [rowsOf] at R1' S'
            obtain ⟨rst, hrst⟩ : ∃ r, r = rowsOf xs ls (50 - (j + 1)) (j + 1) := ⟨_, rfl⟩
            rw [← hrst] at R1' S'
            have HRST := Lib.hid hrst
            have R1h := Lib.hid R1'
            have Sh := Lib.hid S'
            clear hrst e50 R1' S' R1 HS
            by_cases hx : j < xs.length
            · obtain ⟨b1, off1, rfl, hbb1, hcell1⟩ := Rd.form hX.out (by rw [uc_length]; omega)
              have hc1 := hcell1 _ _ (uc_get xs j hx)
              have hnp : nPart xs j = num xs[j] := by unfold nPart; rw [dif_pos hx]
              have hx64 := HX.out _ (List.getElem_mem hx)
              obtain ⟨x, hxe⟩ : ∃ x, x = xs[j] := ⟨_, rfl⟩
              rw [← hxe] at hc1 hnp hx64
              have R1' := R1h.out
              have S' := Sh.out
              rw [hnp] at R1' S'
              have R1k := Lib.hid R1'
              have Sk : Hid (q ≠ [] → Short (rNum l2 e2).2.1 (rNum l2 e2).2.2 (bPart ls j ++ rst)) := fun hq0 => short_num hx64 (S' hq0)
              have hc1' := Lib.hid hc1
              clear hxe hnp hcell1 R1' S' R1h Sh hc1
              go_wp2_with fail
              have H4 := rnum_calls g2 l2 e2 wr F2 R2.out
              obtain ⟨⟨y4, l4, e4⟩, hr4⟩ : ∃ r, r = rNum l2 e2 := ⟨_, rfl⟩
              rw [← hr4] at H4 Sk
              simp only at H4 Sk
              refine H4.mono ?_
              clear H4 hr4
              rintro e w4 ⟨rfl, hR24, hf4⟩
              have hs4 : wr.heap.size ≤ w4.heap.size := hf4.size
              have R14 := R1k.out.keep hf4 fun k _ => HD.out k
              have a4 := below_fr hbel hf4 (Nat.le_refl _) fun k hk h => by have := HF2.out k h; omega
              have hX4 := hX.out.keep hf4 fun k _ h1 h2 => by have := HF2.out k h2; omega
              have hY4 := hY.out.keep hf4 fun k _ h1 h2 => by have := HF2.out k h2; omega
              have hcw4 : w4.cell? ⟨b1, off1 + j, none⟩ = some (.int .u64 (x : Int)) := (hf4.cell (p := ⟨b1, off1 + j, none⟩) (World.block_lt_of_cell? _ _ hc1'.out) (fun h => by have := HF2.out b1 h; omega)).trans hc1'.out
              have HX4 := Lib.hid hX4
              have HY4 := Lib.hid hY4
              have HR14 := Lib.hid R14
              have HR24 := Lib.hid hR24
              have HC4 := Lib.hid hcw4
              clear hX4 hY4 R14 hR24 hf4 hc1' R1k R2 hcw4
              go_wp2_with fail
              refine region_toG (T := oneT F1) (J := oneJ) oneT_trans oneT_refl false (fun vs W γ => vs 6 = .bool false ∧ Rdr W F1 g1 (bPart ls j ++ rst) 0) (by kernel_rfl) (by kernel_rfl) (by kernel_rfl) rfl ?_ ?_
              · refine ⟨prOfG [.is (.pointer (some ⟨g1, 0, none⟩)), .got (.int .u64 (x : Int)) g1 (bPart ls j ++ rst) 0, .is (.slice (some ⟨b1, off1, none⟩) xs.length c), .is (.int .i64 (j : Int)), .is (.pointer (some ⟨b1, off1 + j, none⟩)), .is (.int .u64 (x : Int)), .is (.bool false)], prOfG_st _, no_none (by kernel_rfl), ⟨?_, ?_, ?_, ?_, ?_, ?_, ?_, trivial⟩, fun vs W γ _ _ h => ⟨h 6 rfl, (h 1 rfl).2.2⟩⟩
                · refine owes_plainG rfl fun dn a W γ hT hdn hdp hJ hf hd => ?_
                  have e7 := hf 7 rfl
                  exact step_val (w' := W) (by simp only [execOp]; go_simp) ⟨γ, oneT_refl _ _, oneJ_same (by decide) hJ, rfl⟩
                · refine owes_plainG rfl fun dn a W γ hT hdn hdp hJ hf hd => ?_
                  obtain ⟨v0, e0, rfl⟩ := hd 0 rfl
                  have hγ : γ = false := by rw [show γ = dn 1 from hJ, hdn]
                  refine step_call (w' := W) (f := 14) (args := #[.pointer (some ⟨g1, 0, none⟩)]) (by simp only [execOp]; go_simp) ?_
                  have HB7 := rnum_calls g1 _ 0 W F1 (HR14.out.drew.below (hT.2.2 hγ.symm))
                  rw [rnum_num x hx64] at HB7
                  refine HB7.mono ?_
                  rintro e w' ⟨rfl, hR, hf7⟩
                  exact ⟨_, rfl, true, ⟨hf7, fun _ => rfl, fun h => by rw [hγ] at h; cases h⟩, by simp [oneJ, did], rfl, rfl, hR⟩
                · refine owes_plainG rfl fun dn a W γ hT hdn hdp hJ hf hd => ?_
                  have e0 := hf 0 rfl
                  exact step_val (w' := W) (by simp only [execOp]; go_simp) ⟨γ, oneT_refl _ _, oneJ_same (by decide) hJ, rfl⟩
                · refine owes_plainG rfl fun dn a W γ hT hdn hdp hJ hf hd => ?_
                  have e9 := hf 9 rfl
                  exact step_val (w' := W) (by simp only [execOp]; go_simp) ⟨γ, oneT_refl _ _, oneJ_same (by decide) hJ, rfl⟩
                · refine owes_plainG rfl fun dn a W γ hT hdn hdp hJ hf hd => ?_
                  obtain ⟨v2, e2, rfl⟩ := hd 2 rfl
                  obtain ⟨v3, e3, rfl⟩ := hd 3 rfl
                  exact step_val (w' := W) (by simp only [execOp]; go_simp) ⟨γ, oneT_refl _ _, oneJ_same (by decide) hJ, rfl⟩
                · refine owes_plainG rfl fun dn a W γ hT hdn hdp hJ hf hd => ?_
                  obtain ⟨v4, e4, rfl⟩ := hd 4 rfl
                  have hcw : W.cell? ⟨b1, off1 + j, none⟩ = some (.int .u64 (x : Int)) := (hT.1.cell (p := ⟨b1, off1 + j, none⟩) (show b1 < w4.heap.size from Nat.lt_of_lt_of_le hbb1 a4.size) (fun h => by have := HF1.out b1 h; omega)).trans HC4.out
                  exact step_val (w' := W) (by simp only [execOp]; go_simp) ⟨γ, oneT_refl _ _, oneJ_same (by decide) hJ, rfl⟩
                · refine owes_plainG rfl fun dn a W γ hT hdn hdp hJ hf hd => ?_
                  obtain ⟨v1, e1, _, rfl, _⟩ := hd 1 rfl
                  obtain ⟨v5, e5, rfl⟩ := hd 5 rfl
                  exact step_val (w' := W) (by simp only [execOp]; go_simp) ⟨γ, oneT_refl _ _, oneJ_same (by decide) hJ, rfl⟩
              · rintro vs w5 γ5 hT5 ⟨h6, hR15⟩
                simp only [laid, Nat.reduceAdd, h6]
                have hf5 : Fr F1 w4 w5 := (Fr.refl F1 w4).drew.trans hT5.1
                have hR25 := Lib.hid (HR24.out.keep hf5 fun k _ h2 h1 => HD.out k h1 h2)
                have hX5 := Lib.hid (HX4.out.keep hf5 fun k _ h1 h2 => by have := HF1.out k h2; omega)
                have hY5 := Lib.hid (HY4.out.keep hf5 fun k _ h1 h2 => by have := HF1.out k h2; omega)
                have a5 := below_fr a4 hf5 (Nat.le_refl _) fun k hk h => by have := HF1.out k h; omega
                have hR15 := Lib.hid hR15
                clear hT5 hf5 h6 HR24 HX4 HY4 HC4 HR14
                by_cases hl : j < ls.length
                · obtain ⟨b2, off2, rfl, hb2, hcell2⟩ := RdL.form hY5.out (by omega)
                  obtain ⟨a3, c3, hc3, hr3, hlc3⟩ := hcell2 j _ (List.getElem?_eq_getElem hl)
                  have hbp : bPart ls j = num ls[j].length ++ ls[j] := by unfold bPart; rw [dif_pos hl]
                  have hl30 := HL.out _ (List.getElem_mem hl)
                  obtain ⟨l3, hl3⟩ : ∃ l3, l3 = ls[j] := ⟨_, rfl⟩
                  rw [← hl3] at hc3 hr3 hlc3 hbp hl30
                  have R1' := hR15.out
                  have S' := Sk.out
                  rw [hbp, List.append_assoc] at R1' S'
                  have R1h := Lib.hid R1'
                  have Sh : Hid (q ≠ [] → Short (rBlk l4 e4).2.1 (rBlk l4 e4).2.2 rst) := fun hq0 => short_blk (by omega) (S' hq0)
                  have HR3 := Lib.hid hr3
                  have hc3' := Lib.hid hc3
                  have hqs : (str l3).toList = l3 := str_toList l3
                  clear hl3 hbp hcell2 hr3 hc3 R1' S' hR15 Sk
                  go_wp2_with fail
                  have H6 := rblock_calls g2 l4 e4 w5 F2 hR25.out
                  obtain ⟨⟨y2, l6, e6⟩, hr6⟩ : ∃ r, r = rBlk l4 e4 := ⟨_, rfl⟩
                  rw [← hr6] at H6 Sh
                  simp only at H6 Sh
                  refine H6.mono ?_
                  clear H6 hr6
                  rintro e w6 ⟨A6, c6, rfl, hown6, hR26, hf6⟩
                  have hs6 : w5.heap.size ≤ w6.heap.size := hf6.size
                  have R16 := R1h.out.keep hf6 fun k _ => HD.out k
                  have a6 := below_fr a5 hf6 (Nat.le_refl _) fun k hk h => by have := HF2.out k h; omega
                  have hX6 := hX5.out.keep hf6 fun k _ h1 h2 => by have := HF2.out k h2; omega
                  have hY6 := hY5.out.keep hf6 fun k _ h1 h2 => by have := HF2.out k h2; omega
                  have hcw6 : w6.cell? ⟨b2, off2 + j, none⟩ = some (.slice a3 l3.length c3) := (hf6.cell (p := ⟨b2, off2 + j, none⟩) (World.block_lt_of_cell? _ _ hc3'.out) (fun h => by have := HF2.out b2 h; omega)).trans hc3'.out
                  have hr36 := HR3.out.keep hf6 fun k _ h1 h2 => by have := HF2.out k h2; omega
                  have HX6 := Lib.hid hX6
                  have HY6 := Lib.hid hY6
                  have HR16 := Lib.hid R16
                  have HR26 := Lib.hid hR26
                  have HR36 := Lib.hid hr36
                  have HC6 := Lib.hid hcw6
                  clear hX6 hY6 R16 hR26 hf6 hown6 hr36 HR3 hc3' R1h hR25 hcw6
                  go_wp2_with fail
                  refine region_toG (T := oneT F1) (J := oneJ) oneT_trans oneT_refl false (fun vs W γ => vs 8 = .bool false ∧ Rdr W F1 g1 rst 0) (by kernel_rfl) (by kernel_rfl) (by kernel_rfl) rfl ?_ ?_
                  · refine ⟨prOfG [.is (.pointer (some ⟨g1, 0, none⟩)), .gotB l3 g1 rst 0, .is (.string (str l3)), .is (.slice (some ⟨b2, off2, none⟩) ls.length d), .is (.int .i64 (j : Int)), .is (.pointer (some ⟨b2, off2 + j, none⟩)), .is (.slice a3 l3.length c3), .is (.string (str l3)), .is (.bool false)], prOfG_st _, no_none (by kernel_rfl), ⟨?_, ?_, ?_, ?_, ?_, ?_, ?_, ?_, ?_, trivial⟩, fun vs W γ _ _ h => ⟨h 8 rfl, (h 1 rfl).2.2⟩⟩
                    · refine owes_plainG rfl fun dn a W γ hT hdn hdp hJ hf hd => ?_
                      have e7 := hf 7 rfl
                      exact step_val (w' := W) (by simp only [execOp]; go_simp) ⟨γ, oneT_refl _ _, oneJ_same (by decide) hJ, rfl⟩
                    · refine owes_plainG rfl fun dn a W γ hT hdn hdp hJ hf hd => ?_
                      obtain ⟨v0, e0, rfl⟩ := hd 0 rfl
                      have hγ : γ = false := by rw [show γ = dn 1 from hJ, hdn]
                      refine step_call (w' := W) (f := 24) (args := #[.pointer (some ⟨g1, 0, none⟩)]) (by simp only [execOp]; go_simp) ?_
                      have HB7 := rblock_calls g1 _ 0 W F1 (HR16.out.drew.below (hT.2.2 hγ.symm))
                      rw [← List.append_assoc, rblk_num l3 rst (by omega)] at HB7
                      refine HB7.mono ?_
                      rintro e w' ⟨A7, c7, rfl, hown, hR, hf7⟩
                      exact ⟨_, rfl, true, ⟨hf7, fun _ => rfl, fun h => by rw [hγ] at h; cases h⟩, by simp [oneJ, did], rfl, ⟨A7, c7, rfl, (Rd.of_own hown (by omega)).mono fun _ _ _ => trivial⟩, hR⟩
                    · refine owes_plainG rfl fun dn a W γ hT hdn hdp hJ hf hd => ?_
                      obtain ⟨v1, e1, _, ⟨A7, c7, rfl, hv⟩, _⟩ := hd 1 rfl
                      have hcv := conv_str c7 hv
                      exact step_val (w' := W) (by simp only [execOp]; go_simp) ⟨γ, oneT_refl _ _, oneJ_same (by decide) hJ, rfl⟩
                    · refine owes_plainG rfl fun dn a W γ hT hdn hdp hJ hf hd => ?_
                      have e1 := hf 1 rfl
                      exact step_val (w' := W) (by simp only [execOp]; go_simp) ⟨γ, oneT_refl _ _, oneJ_same (by decide) hJ, rfl⟩
                    · refine owes_plainG rfl fun dn a W γ hT hdn hdp hJ hf hd => ?_
                      have e9 := hf 9 rfl
                      exact step_val (w' := W) (by simp only [execOp]; go_simp) ⟨γ, oneT_refl _ _, oneJ_same (by decide) hJ, rfl⟩
                    · refine owes_plainG rfl fun dn a W γ hT hdn hdp hJ hf hd => ?_
                      obtain ⟨v3, e3, rfl⟩ := hd 3 rfl
                      obtain ⟨v4, e4, rfl⟩ := hd 4 rfl
                      exact step_val (w' := W) (by simp only [execOp]; go_simp) ⟨γ, oneT_refl _ _, oneJ_same (by decide) hJ, rfl⟩
                    · refine owes_plainG rfl fun dn a W γ hT hdn hdp hJ hf hd => ?_
                      obtain ⟨v5, e5, rfl⟩ := hd 5 rfl
                      have hcw : W.cell? ⟨b2, off2 + j, none⟩ = some (.slice a3 l3.length c3) := (hT.1.cell (p := ⟨b2, off2 + j, none⟩) (show b2 < w6.heap.size from Nat.lt_of_lt_of_le hb2 a6.size) (fun h => by have := HF1.out b2 h; omega)).trans HC6.out
                      exact step_val (w' := W) (by simp only [execOp]; go_simp) ⟨γ, oneT_refl _ _, oneJ_same (by decide) hJ, rfl⟩
                    · refine owes_plainG rfl fun dn a W γ hT hdn hdp hJ hf hd => ?_
                      obtain ⟨v6, e6, rfl⟩ := hd 6 rfl
                      have hcv := conv_str c3 (HR36.out.drew.keep hT.1 fun k _ h1 h2 => by have := HF1.out k h2; omega)
                      exact step_val (w' := W) (by simp only [execOp]; go_simp) ⟨γ, oneT_refl _ _, oneJ_same (by decide) hJ, rfl⟩
                    · refine owes_plainG rfl fun dn a W γ hT hdn hdp hJ hf hd => ?_
                      obtain ⟨v2, e2, rfl⟩ := hd 2 rfl
                      obtain ⟨v7, e7, rfl⟩ := hd 7 rfl
                      exact step_val (w' := W) (by simp only [execOp]; go_simp) ⟨γ, oneT_refl _ _, oneJ_same (by decide) hJ, rfl⟩
                  · rintro vs w7 γ7 hT7 ⟨h8, hR17⟩
                    simp only [laid, Nat.reduceAdd, h8]
                    have hf7 : Fr F1 w6 w7 := (Fr.refl F1 w6).drew.trans hT7.1
                    have hR27 := Lib.hid (HR26.out.keep hf7 fun k _ h2 h1 => HD.out k h1 h2)
                    have hX7 := Lib.hid (HX6.out.keep hf7 fun k _ h1 h2 => by have := HF1.out k h2; omega)
                    have hY7 := Lib.hid (HY6.out.keep hf7 fun k _ h1 h2 => by have := HF1.out k h2; omega)
                    have a7 := below_fr a6 hf7 (Nat.le_refl _) fun k hk h => by have := HF1.out k h; omega
                    have hR17 := Lib.hid hR17
                    clear hT7 hf7 h8 HR26 HX6 HY6 HC6 HR36 HR16
                    go_wp2_with fail
                    go_roundw
                    case rel => exact ⟨j + 1, l6, e6, by omega, by go_num, by show Rdr _ _ _ _ _; rw [← HRST.out]; exact hR17.out, hR27, by show _ → _; rw [← HRST.out]; exact Sh.out, hX7, hY7, a7⟩
                    case measure => simp [intOf]; omega
                · have R1' := hR15.out
                  have S' := Sk.out
                  have hbp : bPart ls j = [] := by unfold bPart; rw [dif_neg hl]
                  rw [hbp, List.nil_append] at R1' S'
                  have R1h := Lib.hid R1'
                  have Sh := Lib.hid S'
                  clear R1' S' hbp
                  go_wp2_with fail
                  go_roundw
                  case rel => exact ⟨j + 1, l4, e4, by omega, by go_num, by show Rdr _ _ _ _ _; rw [← HRST.out]; exact R1h.out, hR25, by show _ → _; rw [← HRST.out]; exact Sh.out, hX5, hY5, a5⟩
                  case measure => simp [intOf]; omega
            · have hnp : nPart xs j = [] := by unfold nPart; rw [dif_neg hx]
              have R1' := R1h.out
              have S' := Sh.out
              rw [hnp, List.nil_append] at R1' S'
              have R1k := Lib.hid R1'
              have Sk := Lib.hid S'
              clear hnp R1' S' R1h Sh
              by_cases hl : j < ls.length
              · obtain ⟨b2, off2, rfl, hb2, hcell2⟩ := RdL.form hY.out (by omega)
                obtain ⟨a3, c3, hc3, hr3, hlc3⟩ := hcell2 j _ (List.getElem?_eq_getElem hl)
                have hbp : bPart ls j = num ls[j].length ++ ls[j] := by unfold bPart; rw [dif_pos hl]
                have hl30 := HL.out _ (List.getElem_mem hl)
                obtain ⟨l3, hl3⟩ : ∃ l3, l3 = ls[j] := ⟨_, rfl⟩
                rw [← hl3] at hc3 hr3 hlc3 hbp hl30
                have R1' := R1k.out
                have S' := Sk.out
                rw [hbp, List.append_assoc] at R1' S'
                have R1h := Lib.hid R1'
                have Sh : Hid (q ≠ [] → Short (rBlk l2 e2).2.1 (rBlk l2 e2).2.2 rst) := fun hq0 => short_blk (by omega) (S' hq0)
                have HR3 := Lib.hid hr3
                have hc3' := Lib.hid hc3
                have hqs : (str l3).toList = l3 := str_toList l3
                clear hl3 hbp hcell2 hr3 hc3 R1' S' R1k Sk
                go_wp2_with fail
                have H6 := rblock_calls g2 l2 e2 wr F2 R2.out
                obtain ⟨⟨y2, l6, e6⟩, hr6⟩ : ∃ r, r = rBlk l2 e2 := ⟨_, rfl⟩
                rw [← hr6] at H6 Sh
                simp only at H6 Sh
                refine H6.mono ?_
                clear H6 hr6
                rintro e w6 ⟨A6, c6, rfl, hown6, hR26, hf6⟩
                have hs6 : wr.heap.size ≤ w6.heap.size := hf6.size
                have R16 := R1h.out.keep hf6 fun k _ => HD.out k
                have a6 := below_fr hbel hf6 (Nat.le_refl _) fun k hk h => by have := HF2.out k h; omega
                have hX6 := hX.out.keep hf6 fun k _ h1 h2 => by have := HF2.out k h2; omega
                have hY6 := hY.out.keep hf6 fun k _ h1 h2 => by have := HF2.out k h2; omega
                have hcw6 : w6.cell? ⟨b2, off2 + j, none⟩ = some (.slice a3 l3.length c3) := (hf6.cell (p := ⟨b2, off2 + j, none⟩) (World.block_lt_of_cell? _ _ hc3'.out) (fun h => by have := HF2.out b2 h; omega)).trans hc3'.out
                have hr36 := HR3.out.keep hf6 fun k _ h1 h2 => by have := HF2.out k h2; omega
                have HX6 := Lib.hid hX6
                have HY6 := Lib.hid hY6
                have HR16 := Lib.hid R16
                have HR26 := Lib.hid hR26
                have HR36 := Lib.hid hr36
                have HC6 := Lib.hid hcw6
                clear hX6 hY6 R16 hR26 hf6 hown6 hr36 HR3 hc3' R1h R2 hcw6
                go_wp2_with fail
                refine region_toG (T := oneT F1) (J := oneJ) oneT_trans oneT_refl false (fun vs W γ => vs 8 = .bool false ∧ Rdr W F1 g1 rst 0) (by kernel_rfl) (by kernel_rfl) (by kernel_rfl) rfl ?_ ?_
                · refine ⟨prOfG [.is (.pointer (some ⟨g1, 0, none⟩)), .gotB l3 g1 rst 0, .is (.string (str l3)), .is (.slice (some ⟨b2, off2, none⟩) ls.length d), .is (.int .i64 (j : Int)), .is (.pointer (some ⟨b2, off2 + j, none⟩)), .is (.slice a3 l3.length c3), .is (.string (str l3)), .is (.bool false)], prOfG_st _, no_none (by kernel_rfl), ⟨?_, ?_, ?_, ?_, ?_, ?_, ?_, ?_, ?_, trivial⟩, fun vs W γ _ _ h => ⟨h 8 rfl, (h 1 rfl).2.2⟩⟩
                  · refine owes_plainG rfl fun dn a W γ hT hdn hdp hJ hf hd => ?_
                    have e7 := hf 7 rfl
                    exact step_val (w' := W) (by simp only [execOp]; go_simp) ⟨γ, oneT_refl _ _, oneJ_same (by decide) hJ, rfl⟩
                  · refine owes_plainG rfl fun dn a W γ hT hdn hdp hJ hf hd => ?_
                    obtain ⟨v0, e0, rfl⟩ := hd 0 rfl
                    have hγ : γ = false := by rw [show γ = dn 1 from hJ, hdn]
                    refine step_call (w' := W) (f := 24) (args := #[.pointer (some ⟨g1, 0, none⟩)]) (by simp only [execOp]; go_simp) ?_
                    have HB7 := rblock_calls g1 _ 0 W F1 (HR16.out.drew.below (hT.2.2 hγ.symm))
                    rw [← List.append_assoc, rblk_num l3 rst (by omega)] at HB7
                    refine HB7.mono ?_
                    rintro e w' ⟨A7, c7, rfl, hown, hR, hf7⟩
                    exact ⟨_, rfl, true, ⟨hf7, fun _ => rfl, fun h => by rw [hγ] at h; cases h⟩, by simp [oneJ, did], rfl, ⟨A7, c7, rfl, (Rd.of_own hown (by omega)).mono fun _ _ _ => trivial⟩, hR⟩
                  · refine owes_plainG rfl fun dn a W γ hT hdn hdp hJ hf hd => ?_
                    obtain ⟨v1, e1, _, ⟨A7, c7, rfl, hv⟩, _⟩ := hd 1 rfl
                    have hcv := conv_str c7 hv
                    exact step_val (w' := W) (by simp only [execOp]; go_simp) ⟨γ, oneT_refl _ _, oneJ_same (by decide) hJ, rfl⟩
                  · refine owes_plainG rfl fun dn a W γ hT hdn hdp hJ hf hd => ?_
                    have e1 := hf 1 rfl
                    exact step_val (w' := W) (by simp only [execOp]; go_simp) ⟨γ, oneT_refl _ _, oneJ_same (by decide) hJ, rfl⟩
                  · refine owes_plainG rfl fun dn a W γ hT hdn hdp hJ hf hd => ?_
                    have e9 := hf 9 rfl
                    exact step_val (w' := W) (by simp only [execOp]; go_simp) ⟨γ, oneT_refl _ _, oneJ_same (by decide) hJ, rfl⟩
                  · refine owes_plainG rfl fun dn a W γ hT hdn hdp hJ hf hd => ?_
                    obtain ⟨v3, e3, rfl⟩ := hd 3 rfl
                    obtain ⟨v4, e4, rfl⟩ := hd 4 rfl
                    exact step_val (w' := W) (by simp only [execOp]; go_simp) ⟨γ, oneT_refl _ _, oneJ_same (by decide) hJ, rfl⟩
                  · refine owes_plainG rfl fun dn a W γ hT hdn hdp hJ hf hd => ?_
                    obtain ⟨v5, e5, rfl⟩ := hd 5 rfl
                    have hcw : W.cell? ⟨b2, off2 + j, none⟩ = some (.slice a3 l3.length c3) := (hT.1.cell (p := ⟨b2, off2 + j, none⟩) (show b2 < w6.heap.size from Nat.lt_of_lt_of_le hb2 a6.size) (fun h => by have := HF1.out b2 h; omega)).trans HC6.out
                    exact step_val (w' := W) (by simp only [execOp]; go_simp) ⟨γ, oneT_refl _ _, oneJ_same (by decide) hJ, rfl⟩
                  · refine owes_plainG rfl fun dn a W γ hT hdn hdp hJ hf hd => ?_
                    obtain ⟨v6, e6, rfl⟩ := hd 6 rfl
                    have hcv := conv_str c3 (HR36.out.drew.keep hT.1 fun k _ h1 h2 => by have := HF1.out k h2; omega)
                    exact step_val (w' := W) (by simp only [execOp]; go_simp) ⟨γ, oneT_refl _ _, oneJ_same (by decide) hJ, rfl⟩
                  · refine owes_plainG rfl fun dn a W γ hT hdn hdp hJ hf hd => ?_
                    obtain ⟨v2, e2, rfl⟩ := hd 2 rfl
                    obtain ⟨v7, e7, rfl⟩ := hd 7 rfl
                    exact step_val (w' := W) (by simp only [execOp]; go_simp) ⟨γ, oneT_refl _ _, oneJ_same (by decide) hJ, rfl⟩
                · rintro vs w7 γ7 hT7 ⟨h8, hR17⟩
                  simp only [laid, Nat.reduceAdd, h8]
                  have hf7 : Fr F1 w6 w7 := (Fr.refl F1 w6).drew.trans hT7.1
                  have hR27 := Lib.hid (HR26.out.keep hf7 fun k _ h2 h1 => HD.out k h1 h2)
                  have hX7 := Lib.hid (HX6.out.keep hf7 fun k _ h1 h2 => by have := HF1.out k h2; omega)
                  have hY7 := Lib.hid (HY6.out.keep hf7 fun k _ h1 h2 => by have := HF1.out k h2; omega)
                  have a7 := below_fr a6 hf7 (Nat.le_refl _) fun k hk h => by have := HF1.out k h; omega
                  have hR17 := Lib.hid hR17
                  clear hT7 hf7 h8 HR26 HX6 HY6 HC6 HR36 HR16
                  go_wp2_with fail
                  go_roundw
                  case rel => exact ⟨j + 1, l6, e6, by omega, by go_num, by show Rdr _ _ _ _ _; rw [← HRST.out]; exact hR17.out, hR27, by show _ → _; rw [← HRST.out]; exact Sh.out, hX7, hY7, a7⟩
                  case measure => simp [intOf]; omega
              · have R1' := R1k.out
                have S' := Sk.out
                have hbp : bPart ls j = [] := by unfold bPart; rw [dif_neg hl]
                rw [hbp, List.nil_append] at R1' S'
                have R1h := Lib.hid R1'
                have Sh := Lib.hid S'
                clear R1' S' hbp
                go_wp2_with fail
                go_roundw
                case rel => exact ⟨j + 1, l2, e2, by omega, by go_num, by show Rdr _ _ _ _ _; rw [← HRST.out]; exact R1h.out, R2, by show _ → _; rw [← HRST.out]; exact Sh.out, hX, hY, hbel⟩
                case measure => simp [intOf]; omega
          · have hj50 : j = 50 := by omega
            subst hj50
            have R1' := R1.out
            have S' := HS.out
            simp only [Nat.sub_self, rowsOf] at R1' S'
            clear R1 HS
            go_wp2_with fail
            refine (end_calls g1 [] 0 _ _ R1').mono ?_
            rintro e w8 ⟨rfl, hR8, hf8⟩
            have a8 := below_fr hbel hf8 (Nat.le_refl _) fun k hk h => by have := HF1.out k h; omega
            have R28 := Lib.hid (R2.out.keep hf8 fun k _ h2 h1 => HD.out k h1 h2)
            simp only [rEnd]
            by_cases hq0 : q = []
            · subst hq0
              go_wp2
              go_ret
              exact ⟨rfl, a8⟩
            · have he5 : e2 = 5 := by
                rcases S' hq0 with ⟨_, _, h⟩ | h
                · exact absurd rfl h
                · exact h
              subst he5
              have hql0 : q.length ≠ 0 := fun h => hq0 (List.eq_nil_of_length_eq_zero h)
              clear S'
              go_wp2_with (go_at_call 15; refine (err_calls g2 _ _ _ _ R28.out).mono ?_; rintro e w' ⟨rfl, rfl⟩)
              go_ret
              exact ⟨rfl, a8⟩

set_option maxHeartbeats 1000000 in
theorem back_out (w : World) (A : Option Addr) (n c : Nat) (B : Option Addr) (ls : List (List UInt8)) (d : Nat) (hs : RdL w (fun k => k < w.heap.size) B ls) (hlm : ∀ l ∈ ls, l.length ≤ 9223372036854775807) (hls : ls.length ≤ 9223372036854775807) (hn : n ≤ 9223372036854775807)
    (h : 50 < n ∨ (n ≤ 50 ∧ lightB ls 50 3000 = false)) :
    Calls Try.prog 7 #[.slice A n c, .slice B ls.length d] w fun e w' => e = .returned (.bool true) ∧ Below w.heap.size w w' := by
  have HB := Lib.hid hs
  have HLM := Lib.hid hlm
  clear hs hlm
  rcases h with h | ⟨h, h'⟩
  · go_enter Try.func7, Try.ntmps7
    go_wp2_with fail
    refine (lives1 _).mono ?_
    rintro e w1 ⟨rfl, hb1⟩
    go_wp2
    go_ret
    exact ⟨rfl, hb1⟩
  · have HL := Lib.hid h'
    clear h'
    go_enter Try.func7, Try.ntmps7
    go_wp2_with fail
    refine (lives1 _).mono ?_
    rintro e w1 ⟨rfl, hb1⟩
    go_wp2_with fail
    have H2 := light_calls B ls d 50 3000 w1 _ (HB.out.below hb1) hls HLM.out (by omega) (by omega)
    rw [HL.out] at H2
    refine H2.mono ?_
    clear H2
    rintro e w' ⟨rfl, rfl⟩
    go_wp2
    go_ret
    exact ⟨rfl, hb1⟩

theorem octetBack_walk (w : World) (A : Option Addr) (xs : List Nat) (c : Nat) (hr : Rd w (fun k => k < w.heap.size) A (xs.map fun (n : Nat) => .int .u64 (n : Int))) (hc : xs.length ≤ c) (hm : c ≤ maxLen) (hx : ∀ x ∈ xs, x < 18446744073709551616) (B : Option Addr) (ls : List (List UInt8)) (d : Nat) (hs : RdL w (fun k => k < w.heap.size) B ls) (hd : ls.length ≤ d) (hm2 : d ≤ maxLen) (hlm : ∀ l ∈ ls, l.length ≤ maxLen) :
    Calls Try.prog 7 #[.slice A xs.length c, .slice B ls.length d] w fun e w' => e = .returned (.bool true) ∧ Below w.heap.size w w' := by
  unfold maxLen at hm hm2 hlm
  have h1 : ∀ l ∈ ls, l.length ≤ 9223372036854775807 := fun l hl => by have := hlm l hl; omega
  by_cases h50 : xs.length ≤ 50
  · cases hB : lightB ls 50 3000 with
    | true => exact back_go w A xs c hr hx B ls d hs h1 h50 hB (by omega)
    | false => exact back_out w A xs.length c B ls d hs h1 (by omega) (by omega) (Or.inr ⟨h50, hB⟩)
  · exact back_out w A xs.length c B ls d hs h1 (by omega) (by omega) (Or.inl (by omega))
end Go.Proofs.Ytfkbmnlohaghbaa
