/- From what the row lists of api.Round to its cells; a heap that meets it. -/
import Derived.Test.YtbhaekdfpfncnaaDoorRows
import Derived.Test.YtbhaekdfpfncnaaDoorHkB
import Derived.ProofKit
import Derived.LaidMore
import Derived.OpenShut
import Derived.Stop.Joined
namespace Go.Proofs.YtbhaekdfpfncnaaDoor
set_option linter.unusedVariables false
set_option linter.unusedSimpArgs false
open Go.ChangeShapes Go.WideShapes Go.ChangeAt Go.RowKit

noncomputable def lds : List (String × DataW Unit) := [("drawbridge/api.Round", Rows.laid_drawbridge_api_Round)]
theorem lds_eq : (Rows.laid_drawbridge_api_Round : DataW Unit) = .agg (rkL.map fun (n : Nat) => .lit (.int .u32 (n : Int))) := by kernel_rfl
theorem gRound : Tryd.prog.globalNamed "drawbridge/api.Round" = some 0 := by kernel_rfl
theorem tRound : (Tryd.prog.globals[0]?).map (·.type) = some 91 := by kernel_rfl
theorem door_met (os : Os) (args : Array Value) : laidMetH Tryd.prog lds ((World.doorLaid Tryd.prog 400 os).forCall (fun _ _ => 0) ⟨#[], args, []⟩).memory :=
  laidMetH_of_parts3 (fuel := 8) (laidMet_of_run' 8 (by kernel_rfl) (by kernel_rfl)) (by kernel_rfl) (by kernel_rfl)
theorem glb_of_laid {W : World} (h : laidMetH Tryd.prog lds W) : Glb W := by
  rw [MakeChecks.laidMetH_plain _ _ _ (by kernel_rfl)] at h
  obtain ⟨ps, ⟨g0, t0, cs0, f0, p0, q0, hg0, ht0, hv0, hd0, _, _⟩, _, _⟩ := h
  obtain rfl := Option.some.inj (gRound.symm.trans hg0)
  obtain rfl := Option.some.inj (tRound.symm.trans ht0)
  rw [lds_eq] at hd0
  obtain ⟨xs, m, _, hx, _, hn, hel⟩ := DataW.trod_array Tryd.underlying91 hd0
  have c1 : Tryd.prog.cellsOf 23 = 1 := by kernel_rfl
  simp only [Prod.mk.injEq, DataW.agg.injEq] at hx
  have hl : rkL.length = 64 := by kernel_rfl
  intro j u hu
  have hj : j < 64 := by
    have := (List.getElem?_eq_some_iff.1 hu).1
    simpa [uw, hl] using this
  refine ⟨_, rfl, rfl, ?_⟩
  rw [Addr.add_lit, Nat.zero_add, World.var?_cell hg0 hv0 j]
  have he := hel j hj
  have hxj : xs[j]? = some (xs[j]'(by omega)) := List.getElem?_eq_getElem (by omega)
  rw [hxj, c1] at he
  obtain ⟨k, e1, e2, _⟩ := DataW.trod_int Tryd.underlying23 he
  have e3 : (xs.map (·.1))[j]? = some (.lit (.int .u32 k)) := by rw [List.getElem?_map, hxj, e2]; rfl
  rw [← hx.1, List.getElem?_map, List.getElem?_eq_getElem (show j < rkL.length by omega)] at e3
  have e4 : (rkL[j]'(by omega) : Int) = k := by simpa using e3
  rw [uw_get rkL j (by omega)] at hu
  rw [← hu, e4]
  rw [Nat.mul_one] at e1
  have e5 : (cs0.toList.drop j)[0]? = some (.int .u32 k) := by
    have : ((cs0.toList.drop j).take 1)[0]? = some (.int .u32 k) := by rw [e1]; rfl
    rwa [List.getElem?_take, if_pos (by decide)] at this
  rw [List.getElem?_drop, Nat.add_zero] at e5
  simpa using e5
end Go.Proofs.YtbhaekdfpfncnaaDoor
