/- The probe's concrete values. No program. -/
import Derived.Test.YtbhaekdfpfncnaaDoorShH
namespace Go.Proofs.YtbhaekdfpfncnaaDoor
set_option linter.unusedVariables false
set_option linter.unusedSimpArgs false
open Go.RowKit
def k7 : List UInt8 := 7 :: List.replicate 31 0
def k8 : List UInt8 := 8 :: List.replicate 31 0
def r1 : List UInt8 := 1 :: List.replicate 15 0
def r2 : List UInt8 := 2 :: List.replicate 15 0
theorem liv_hel : (decide (helF k7 3 r1 = helF k8 3 r1)) = false := by kernel_rfl
theorem liv_sec0 : (decide (hkey (r1 ++ r2) k7 (tSec ++ be 8 9) = Z32)) = false := by kernel_rfl
theorem chk_h (n : Int) (rnd m : List UInt8) : chkB (hPK n rnd m) = (decide (1 ≤ n) && decide (n ≤ 65536)) := by
  unfold chkB
  rw [show List.range 6 = [0, 1, 2, 3, 4, 5] from rfl]
  simp [partB, hasL, mayB, zeroB, hPK]
theorem chk_a (ses ep : Nat) (rnd m : List UInt8) : chkB (aPK ses ep rnd m) = (decide (1 ≤ ses) && decide (1 ≤ ep)) := by
  unfold chkB
  rw [show List.range 6 = [0, 1, 2, 3, 4, 5] from rfl]
  simp [partB, hasL, mayB, zeroB, aPK]
theorem chk_z : chkB zPK = false := by kernel_rfl
theorem chN_hel (key : List UInt8) (n : Int) (rnd : List UInt8) : chN key (hPK n rnd (helF key n rnd)) = resN (decide (1 ≤ n) && decide (n ≤ 65536)) := by
  unfold chN
  rw [chk_h]
  rw [show (hPK n rnd (helF key n rnd)).mrk = helF key (hPK n rnd (helF key n rnd)).peer (hPK n rnd (helF key n rnd)).rnd from rfl, if_pos (show (hPK n rnd (helF key n rnd)).kind = 1 from rfl)]
  rw [if_pos rfl]
  rfl
theorem chN_z (key : List UInt8) : chN key zPK = 2 := by unfold chN; rw [chk_z]; rfl
def livH : PK := hPK 3 r1 (helF k7 3 r1)
def livA : PK := aPK 9 2 r2 (ansF k7 livH (aPK 9 2 r2 Z16))
def livS : List UInt8 := secF k7 livH livA
theorem livH_ok : livH.ok := hPK_ok (by omega) rfl (helF_length _ _ _)
theorem livA_ok : livA.ok := aPK_ok (by omega) (by omega) rfl (ansF_length _ _ _)
theorem livS_length : livS.length = 32 := secF_length _ _ _
theorem liv_helP : helP k7 3 r1 = livH := by unfold helP; rw [chk_h]; rfl
theorem liv_helE : helE 3 r1 = 0 := by unfold helE; rw [chk_h]; rfl
theorem liv_ch : chN k7 livH = 0 := by unfold livH; rw [chN_hel]; rfl
theorem liv_anN : anN k7 livH 9 2 r2 = 0 := by unfold anN; rw [liv_ch, if_pos rfl, chk_a]; rfl
theorem liv_anP : anP k7 livH 9 2 r2 = livA := by unfold anP; rw [liv_anN, if_pos rfl]; rfl
theorem liv_anS : anS k7 livH 9 2 r2 = livS := by unfold anS; rw [liv_anN, if_pos rfl]; simp only [livS, secF, livA, aPK]
theorem liv_caN : caN k7 livH livA = 0 := by
  unfold caN
  rw [liv_ch, if_pos rfl, show chkB livA = true from by unfold livA; rw [chk_a]; rfl, if_pos rfl, if_pos (show livA.kind = 2 from rfl), if_pos (show livA.mrk = ansF k7 livH livA from by simp only [livA, aPK, ansF])]
theorem liv_caS : caS k7 livH livA = livS := by unfold caS; rw [liv_caN, if_pos rfl, livS]
theorem liv_ch8 : chN k8 livH = 12 := by
  unfold chN
  rw [show chkB livH = true from by unfold livH; rw [chk_h]; rfl, if_pos rfl, if_pos (show livH.kind = 1 from rfl)]
  rw [if_neg]
  have := of_decide_eq_false liv_hel
  exact this
theorem liv_sec : livS ≠ Z32 := of_decide_eq_false liv_sec0
end Go.Proofs.YtbhaekdfpfncnaaDoor
