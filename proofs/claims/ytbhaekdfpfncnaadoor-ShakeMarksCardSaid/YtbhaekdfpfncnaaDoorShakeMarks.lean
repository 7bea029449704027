/- The law ShakeMarks returns true: a mark is of the bytes alone, however they are cut into a text and parts. No condition. -/
import Derived.Test.YtbhaekdfpfncnaaDoorShakeMarksW
import Derived.Test.YtbhaekdfpfncnaaDoorLaid
import Derived.Test.YtbhaekdfpfncnaaDoorArr
import Derived.Test.YtbhaekdfpfncnaaDoorRowKit2
import Derived.Test.YtbhaekdfpfncnaaDoorTie
import Derived.Test.YtbhaekdfpfncnaaDoorCards
import Derived.SevenTiedAt
namespace Go.Proofs.YtbhaekdfpfncnaaDoor
set_option linter.unusedVariables false
set_option linter.unusedSimpArgs false
open Go.ChangeShapes Go.WideShapes Go.ChangeAt Go.RowKit

theorem open_str {P : Program} {t : TypeId} {r : Reach} {b0 : Nat} {W : World} {v : Value} (ht : P.underlying t = some .string) (h : Value.okWide P W r b0 t v) : ∃ s : ByteArray, v = .string s ∧ s.size ≤ maxLen := by
  have h2 : IntKind.i64.max = 9223372036854775807 := rfl
  simp only [Value.okWide, ht, Cell.okWide] at h
  cases v with
  | string s =>
    refine ⟨s, rfl, ?_⟩
    have h3 : (s.size : Int) ≤ IntKind.i64.max := by simpa [Cell.ok, ht] using h
    unfold maxLen
    omega
  | _ => simp [Cell.ok, ht] at h
set_option maxRecDepth 100000 in
theorem shakeMarks_lifted (os : Os) (started : os.Started) (H : Type) (enc : TypeId × Value → H) :
    ReturnsInHanded {} Tryd.checked os 6 .any (fun w args => (Rows.shakeMarksSpec.pre enc Tryd.prog Tryd.f6 [] false w args ∧ laidMetH Tryd.prog lds w) ∧ sizedMet enc Tryd.prog Tryd.f6 (OpenSpec.ofChange Rows.shakeMarksSpec) false w args)
      (Rows.shakeMarksSpec.post enc Tryd.prog Tryd.f6 false true false false) := by
  refine returnsInHanded_of_change_and (C := Tryd.checked) (X := fun w _ => laidMetH Tryd.prog lds w) (fun _ _ _ hh h => h.of_heap hh) Tryd.own started (by kernel_rfl) Tryd.func6
    (ChangeSpec.witness_shaped (enc := enc) (C := Tryd.checked) (os := os) (X := fun w _ => laidMetH Tryd.prog lds w) false (World.doorLaid Tryd.prog 400 os) #[.agg (bc (List.replicate 32 0)).toArray, .string ByteArray.empty, .slice none 0 0] 8 rfl (World.shaped_of_RefB (by kernel_rfl) (by kernel_rfl)) (by kernel_rfl) (by kernel_rfl) (by kernel_rfl) (door_met os _)) ?_
  intro W base args ds gs before hval0 hW _ _ hL _
  have hval : ∀ (j : Nat) t v, Tryd.f6.params[j]? = some t → args[j]? = some v → Value.okWide Tryd.prog W .any base t v := hval0
  have hW' := hW
  obtain ⟨p, q, hA0, hV, rfl, hfz, hnd⟩ := hW
  have hA : DataW.TrodAll enc Tryd.prog W 0 (fun _ => true) true Tryd.f6.params.toList args.toList ds p := hA0
  have hAll := hA
  rw [Tryd.params6] at hA hval
  obtain ⟨v0, v1, v2, d0, d1, d2, p0, p1, p2, rfl, rfl, rfl, h0, h1, h2⟩ := trodAll_three hA
  obtain ⟨rfl, rfl⟩ := trodVars_none hV
  obtain ⟨l0, rfl, e0⟩ := open_arr Tryd.underlying31 Tryd.underlying5 (by kernel_rfl) (by kernel_rfl) (hval 0 31 v0 rfl rfl) h0
  obtain ⟨s1, rfl, ws1⟩ := open_str Tryd.underlying9 (hval 1 9 v1 rfl rfl)
  obtain ⟨A2, ls2, c2, rfl, hr2, hc2, hm2, hx2⟩ := open_bytess Tryd.underlying38 Tryd.underlying25 Tryd.underlying5 (by kernel_rfl) (by kernel_rfl) (hval 2 38 v2 rfl rfl) h2
  clear hA0 hval0
  simp only [List.append_nil] at hW'
  refine (marks_calls l0 e0 s1 A2 ls2 c2 W _ hr2 hc2 hm2 hx2 ws1 (glb_of_laid hL)).mono fun e W' ⟨he, hb⟩ => ?_
  subst he
  exact ⟨_, rfl, law_post Tryd.laidOut rfl (by first | exact hW' | simpa using hW') hAll rfl Tryd.underlying4 (by rw [Tryd.params6]; intro t ht; simp at ht; rcases ht with rfl | rfl | rfl <;> exact ⟨by kernel_rfl, of_decide_eq_true (by kernel_rfl)⟩) rfl hb⟩

theorem shakeMarks_holds : Rows.ShakeMarksSaid :=
  OpenClaim.holds_of_wide 6 Tryd.f6 rfl rfl rfl rfl rfl rfl rfl ⟨rfl, rfl, rfl, rfl, rfl⟩ rfl rfl rfl rfl rfl (by kernel_rfl) Tryd.func6 (by kernel_rfl)
    (of_decide_eq_true (by kernel_rfl)) (by unfold Func.isWrapper; first | (rw [if_pos (by decide +kernel)]; kernel_rfl) | (rw [if_neg (by decide +kernel)]; exact ⟨rfl, rfl⟩))
    (fun os started H enc _ => shakeMarks_lifted os started H enc)

theorem shakeMarks_card : Rows.ShakeMarksCardSaid :=
  Claim7.holds_tied_plain_at .later [] [.data] true (true, "3ec2e74899918e81e6607964b7f46d421ce586a3abbed15b35993556678f8d0c") false
    shakeMarks_holds (fun _ h => by cases h) (by kernel_rfl) (fun _ h => by cases h) shakeMarks_row_tie rfl ⟨rfl, rfl⟩ (by kernel_rfl) rfl
    (fun f fn hf hfn => by
      obtain rfl : f = 6 := Option.some.inj ((show Tryd.prog.funcNamed "drawbridge/drawbridgelaw10.ShakeMarks" = some 6 by kernel_rfl).symm.trans hf) |>.symm
      obtain rfl : fn = Tryd.f6 := (Option.some.inj (Tryd.func6.symm.trans hfn)).symm
      exact ⟨by kernel_rfl, fun j t ht => by
        rw [Tryd.params6] at ht
        have hm : t ∈ [31, 9, 38] := by simpa using Array.mem_of_getElem? ht
        have hall : ([31, 9, 38].all fun u => !Tryd.prog.wantsStandIn u) = true := by kernel_rfl
        exact (show Tryd.prog.wantsStandIn t = false by simpa using List.all_eq_true.1 hall t hm)⟩)
    (by kernel_rfl)
#print axioms shakeMarks_card
end Go.Proofs.YtbhaekdfpfncnaaDoor
