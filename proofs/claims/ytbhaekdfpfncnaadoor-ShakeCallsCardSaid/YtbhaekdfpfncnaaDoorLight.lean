/- drawbridgekit.LightLists; string(b). -/
import Derived.Test.YtbhaekdfpfncnaaDoorLivB
namespace Go.Proofs.YtbhaekdfpfncnaaDoor
set_option linter.unusedVariables false
set_option linter.unusedSimpArgs false
open Go.RowKit

theorem conv_str {w : World} {F : Nat → Prop} {A : Option Addr} {l : List UInt8} (c : Nat) (hr : Rd w F A (bc l)) : (convert 25 9 (.slice A l.length c)).run Tryd.prog w = .ok (.string (str l)) w :=
  run_str Tryd.underlying25 Tryd.underlying5 Tryd.underlying9 c hr
def lightB (ls : List (List UInt8)) (n most : Nat) : Bool := decide (ls.length ≤ n) && (ls.take (n + 1)).all fun l => decide (l.length ≤ most)
theorem lightB_true {ls : List (List UInt8)} {n most : Nat} (h : lightB ls n most = true) : ls.length ≤ n ∧ ∀ l ∈ ls, l.length ≤ most := by
  unfold lightB at h
  rw [Bool.and_eq_true, decide_eq_true_eq] at h
  refine ⟨h.1, fun l hl => ?_⟩
  rw [List.take_of_length_le (by omega), List.all_eq_true] at h
  simpa using h.2 l hl

set_option maxHeartbeats 1000000 in
theorem light_calls (A : Option Addr) (ls : List (List UInt8)) (c n most : Nat) (w : World) (F : Nat → Prop) (hr : RdL w F A ls) (hc : ls.length ≤ 9223372036854775807) (hl : ∀ l ∈ ls, l.length ≤ 9223372036854775807) (hn : n ≤ 1000000) (hmo : most ≤ 1000000) :
    Calls Tryd.prog 13 #[.slice A ls.length c, .int .i64 (n : Int), .int .i64 (most : Int)] w fun e w' => e = .returned (.bool (lightB ls n most)) ∧ w = w' := by
  have HR := Lib.hid hr
  have HL := Lib.hid hl
  clear hr hl
  go_enter Tryd.func13, Tryd.ntmps13
  go_wp2
  go_loop [7] (fun i => ∃ k : Nat, k ≤ ls.length ∧ k ≤ n + 1 ∧ i = .int .i64 k ∧ Hid ((ls.take k).all (fun l => decide (l.length ≤ most)) = true)) (fun i => ls.length - (intOf i).toNat)
  case atStart => exact ⟨0, by omega, by omega, rfl, rfl⟩
  case round =>
    obtain ⟨k, hk, hk2, rfl, hall⟩ := hrel
    by_cases hlt : k < ls.length
    · by_cases hkn : k ≤ n
      · have hkn' : decide ((k : Int) ≤ (n : Int)) = true := by simp; omega
        obtain ⟨b, off, rfl, _, hcell⟩ := HR.out.form (by omega)
        obtain ⟨a, c2, hc2, _, hlc⟩ := hcell k ls[k] (List.getElem?_eq_getElem hlt)
        have hll := HL.out ls[k] (List.getElem_mem _)
        obtain ⟨m, hm⟩ : ∃ m, m = ls[k].length := ⟨_, rfl⟩
        rw [← hm] at hc2 hll hlc
        have HM := Lib.hid hm
        clear hcell hm
        by_cases hbig : most < m
        · have hres : lightB ls n most = false := by
            unfold lightB
            rw [Bool.and_eq_false_iff]
            refine Or.inr ?_
            rw [Bool.eq_false_iff]
            intro h
            rw [List.all_eq_true] at h
            have hmem : ls[k] ∈ ls.take (n + 1) := by
              rw [List.mem_take_iff_getElem]
              exact ⟨k, by omega, rfl⟩
            have := h _ hmem
            have hm2 := HM.out
            simp at this
            omega
          have HRES := Lib.hid hres
          clear hres
          go_wp2
          go_ret
          exact ⟨by rw [HRES.out]; rfl, rfl⟩
        · go_wp2
          go_round
          case rel =>
            refine ⟨k + 1, by omega, by omega, by go_num, ?_⟩
            show _ = true
            rw [List.take_succ_eq_append_getElem hlt, List.all_append, hall.out]
            have hm2 := HM.out
            simp
            omega
          case measure => simp [intOf]; omega
      · have hkn' : decide ((k : Int) ≤ (n : Int)) = false := by simp; omega
        have hres : lightB ls n most = false := by
          unfold lightB
          rw [Bool.and_eq_false_iff]
          exact Or.inl (by simp; omega)
        have HRES := Lib.hid hres
        clear hres
        go_wp2
        go_ret
        exact ⟨by rw [HRES.out]; show Ending.returned (.bool (decide (ls.length ≤ n))) = _; rw [decide_eq_false (by omega)], rfl⟩
    · have hk3 : k = ls.length := by omega
      subst hk3
      go_wp2
      go_ret
      refine ⟨?_, rfl⟩
      show Ending.returned (.bool (decide (ls.length ≤ n))) = _
      have h := hall.out
      rw [List.take_length] at h
      unfold lightB
      rw [List.take_of_length_le (by omega), h, Bool.and_true]
end Go.Proofs.YtbhaekdfpfncnaaDoor
