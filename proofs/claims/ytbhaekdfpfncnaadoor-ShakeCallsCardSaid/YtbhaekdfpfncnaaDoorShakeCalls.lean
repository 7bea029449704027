/- The law ShakeCalls returns true: hellos, answers, marks and secrets are what the document says. No condition. -/
import Derived.Test.YtbhaekdfpfncnaaDoorShakeCallsW
import Derived.Test.YtbhaekdfpfncnaaDoorLaid
import Derived.Test.YtbhaekdfpfncnaaDoorArr
import Derived.Test.YtbhaekdfpfncnaaDoorRowKit2
import Derived.Test.YtbhaekdfpfncnaaDoorTie
import Derived.Test.YtbhaekdfpfncnaaDoorCards
import Derived.SevenTiedAt
import Derived.Test.YtbhaekdfpfncnaaDoorOpk
namespace Go.Proofs.YtbhaekdfpfncnaaDoor
set_option linter.unusedVariables false
set_option linter.unusedSimpArgs false
open Go.ChangeShapes Go.WideShapes Go.ChangeAt Go.RowKit

set_option maxRecDepth 100000 in
theorem shakeCalls_lifted (os : Os) (started : os.Started) (H : Type) (enc : TypeId × Value → H) :
    ReturnsInHanded {} Tryd.checked os 4 .any (fun w args => (Rows.shakeCallsSpec.pre enc Tryd.prog Tryd.f4 [] false w args ∧ laidMetH Tryd.prog lds w) ∧ sizedMet enc Tryd.prog Tryd.f4 (OpenSpec.ofChange Rows.shakeCallsSpec) false w args)
      (Rows.shakeCallsSpec.post enc Tryd.prog Tryd.f4 false true false false) := by
  refine returnsInHanded_of_change_and (C := Tryd.checked) (X := fun w _ => laidMetH Tryd.prog lds w) (fun _ _ _ hh h => h.of_heap hh) Tryd.own started (by kernel_rfl) Tryd.func4
    (ChangeSpec.witness_shaped (enc := enc) (C := Tryd.checked) (os := os) (X := fun w _ => laidMetH Tryd.prog lds w) false (World.doorLaid Tryd.prog 400 os) #[.agg (bc (List.replicate 32 0)).toArray, .int .i64 0, .agg (bc (List.replicate 16 0)).toArray, .agg zPK.X, .agg zPK.X, .int .u64 0, .int .u32 0, .string ByteArray.empty, .slice none 0 0] 8 rfl (World.shaped_of_RefB (by kernel_rfl) (by kernel_rfl)) (by kernel_rfl) (by kernel_rfl) (by kernel_rfl) (door_met os _)) ?_
  intro W base args ds gs before hval0 hW _ _ hL _
  have hval : ∀ (j : Nat) t v, Tryd.f4.params[j]? = some t → args[j]? = some v → Value.okWide Tryd.prog W .any base t v := hval0
  have hW' := hW
  obtain ⟨p, q, hA0, hV, rfl, hfz, hnd⟩ := hW
  have hA : DataW.TrodAll enc Tryd.prog W 0 (fun _ => true) true Tryd.f4.params.toList args.toList ds p := hA0
  have hAll := hA
  rw [Tryd.params4] at hA hval
  obtain ⟨v0, v1, v2, v3, v4, v5, v6, v7, v8, d0, d1, d2, d3, d4, d5, d6, d7, d8, p0, p1, p2, p3, p4, p5, p6, p7, p8, rfl, rfl, h0, h1, h2, h3, h4, h5, h6, h7, h8⟩ := trodAll_nine hA
  obtain ⟨rfl, rfl⟩ := trodVars_none hV
  obtain ⟨l0, rfl, e0⟩ := open_arr Tryd.underlying31 Tryd.underlying5 (by kernel_rfl) (by kernel_rfl) (hval 0 31 v0 rfl rfl) h0
  obtain ⟨n1, rfl, rfl, rfl, w1⟩ := open_int Tryd.underlying3 (hval 1 3 v1 rfl rfl) h1
  obtain ⟨l2, rfl, e2⟩ := open_arr Tryd.underlying24 Tryd.underlying5 (by kernel_rfl) (by kernel_rfl) (hval 2 24 v2 rfl rfl) h2
  obtain ⟨ph, kh, rfl⟩ := open_pk (hval 3 27 v3 rfl rfl) h3
  obtain ⟨pa, ka, rfl⟩ := open_pk (hval 4 27 v4 rfl rfl) h4
  obtain ⟨n5, rfl, rfl, rfl, w5⟩ := open_int Tryd.underlying22 (hval 5 22 v5 rfl rfl) h5
  obtain ⟨n5, hn5, rfl⟩ := u64_of_wf w5
  obtain ⟨n6, rfl, rfl, rfl, w6⟩ := open_int Tryd.underlying23 (hval 6 23 v6 rfl rfl) h6
  obtain ⟨n6, hn6, rfl⟩ := u32_of_wf w6
  obtain ⟨s7, rfl, ws7⟩ := open_text Tryd.underlying9 (hval 7 9 v7 rfl rfl)
  obtain ⟨A8, ls8, c8, rfl, hr8, hc8, hm8, hx8⟩ := open_bytess Tryd.underlying38 Tryd.underlying25 Tryd.underlying5 (by kernel_rfl) (by kernel_rfl) (hval 8 38 v8 rfl rfl) h8
  clear hA0 hval0
  simp only [List.append_nil] at hW'
  refine (shcalls_calls l0 e0 n1 (int_of_wf w1) l2 e2 ph pa kh ka n5 n6 hn5 hn6 s7 (by unfold maxLen at ws7; omega) A8 ls8 c8 W _ hr8 hc8 (by unfold maxLen at hm8; omega) (fun l hl => by have := hx8 l hl; unfold maxLen at this; omega) (glb_of_laid hL)).mono fun e W' ⟨he, hb⟩ => ?_
  subst he
  exact ⟨_, rfl, law_post Tryd.laidOut rfl (by first | exact hW' | simpa using hW') hAll rfl Tryd.underlying4 (by rw [Tryd.params4]; intro t ht; simp at ht; rcases ht with rfl | rfl | rfl | rfl | rfl | rfl | rfl | rfl <;> exact ⟨by kernel_rfl, of_decide_eq_true (by kernel_rfl)⟩) rfl hb⟩

theorem shakeCalls_holds : Rows.ShakeCallsSaid :=
  OpenClaim.holds_of_wide 4 Tryd.f4 rfl rfl rfl rfl rfl rfl rfl ⟨rfl, rfl, rfl, rfl, rfl⟩ rfl rfl rfl rfl rfl (by kernel_rfl) Tryd.func4 (by kernel_rfl)
    (of_decide_eq_true (by kernel_rfl)) (by unfold Func.isWrapper; first | (rw [if_pos (by decide +kernel)]; kernel_rfl) | (rw [if_neg (by decide +kernel)]; exact ⟨rfl, rfl⟩))
    (fun os started H enc _ => shakeCalls_lifted os started H enc)

theorem shakeCalls_card : Rows.ShakeCallsCardSaid :=
  Claim7.holds_tied_plain_at .later [] [.data] true (true, "3ec2e74899918e81e6607964b7f46d421ce586a3abbed15b35993556678f8d0c") false
    shakeCalls_holds (fun _ h => by cases h) (by kernel_rfl) (fun _ h => by cases h) shakeCalls_row_tie rfl ⟨rfl, rfl⟩ (by kernel_rfl) rfl
    (fun f fn hf hfn => by
      obtain rfl : f = 4 := Option.some.inj ((show Tryd.prog.funcNamed "drawbridge/drawbridgelaw10.ShakeCalls" = some 4 by kernel_rfl).symm.trans hf) |>.symm
      obtain rfl : fn = Tryd.f4 := (Option.some.inj (Tryd.func4.symm.trans hfn)).symm
      exact ⟨by kernel_rfl, fun j t ht => by
        rw [Tryd.params4] at ht
        have hm : t ∈ [31, 3, 24, 27, 27, 22, 23, 9, 38] := by simpa using Array.mem_of_getElem? ht
        have hall : ([31, 3, 24, 27, 27, 22, 23, 9, 38].all fun u => !Tryd.prog.wantsStandIn u) = true := by kernel_rfl
        exact (show Tryd.prog.wantsStandIn t = false by simpa using List.all_eq_true.1 hall t hm)⟩)
    (by kernel_rfl)
#print axioms shakeCalls_card
end Go.Proofs.YtbhaekdfpfncnaaDoor
