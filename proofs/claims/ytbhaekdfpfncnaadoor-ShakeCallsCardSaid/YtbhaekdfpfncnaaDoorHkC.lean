/- hkdf.Sum's inner function: bytes go in one by one. -/
import Derived.Test.YtbhaekdfpfncnaaDoorHkB
import Derived.Test.YtbhaekdfpfncnaaDoorSha2
namespace Go.Proofs.YtbhaekdfpfncnaaDoor
set_option linter.unusedVariables false
set_option linter.unusedSimpArgs false
open Go.RowKit

/-- The state behind the bytes m, as it lies. -/
def SInv (w : World) (gp gn gs : Nat) (m : List UInt8) : Prop :=
  Blk w gs 81 (ua (foldB (m.length / 64) iv m).l) ∧ Blk w gn 2 #[.int .i64 (m.length : Int)] ∧ ∃ q, Waits m q ∧ Blk w gp 66 (bc q).toArray
theorem SInv.keep {w w' : World} {gp gn gs : Nat} {m : List UInt8} {S : Nat → Prop} (h : SInv w gp gn gs m) (hf : Fr S w w') (h1 : ¬ S gp) (h2 : ¬ S gn) (h3 : ¬ S gs) : SInv w' gp gn gs m := by
  obtain ⟨a, b, q, hq, c⟩ := h
  exact ⟨a.keep hf h3, b.keep hf h2, q, hq, c.keep hf h1⟩

set_option maxHeartbeats 1000000 in
set_option maxRecDepth 4000 in
theorem take_calls (gp gn gs : Nat) (hpn : gp ≠ gn) (hps : gp ≠ gs) (hns : gn ≠ gs) (hp0 : gp ≠ 0) (hn0 : gn ≠ 0) (hs0 : gs ≠ 0) (m l : List UInt8) (A : Option Addr) (c : Nat) (w : World) (F : Nat → Prop) (hr : Rd w F A (bc l)) (hFp : ¬ F gp) (hFn : ¬ F gn) (hFs : ¬ F gs)
    (hG : Glb w) (hS : SInv w gp gn gs m) (hlen : m.length + l.length ≤ 1125899906842624) :
    Calls Tryd.prog 77 #[.slice A l.length c, .pointer (some ⟨gp, 0, none⟩), .pointer (some ⟨gn, 0, none⟩), .pointer (some ⟨gs, 0, none⟩)] w fun e w' => e = .returned (.tuple #[]) ∧ SInv w' gp gn gs (m ++ l) ∧ Fr (fun k => k = gp ∨ k = gn ∨ k = gs) w w' := by
  have HR := Lib.hid hr
  have HG := Lib.hid hG
  have HS := Lib.hid hS
  clear hr hG hS
  go_enter Tryd.func77, Tryd.ntmps77
  go_wp2_with fail
  go_loopw [9] (fun i wr => ∃ j : Nat, j ≤ l.length ∧ i = .int .i64 j ∧ Hid (SInv wr gp gn gs (m ++ l.take j)) ∧ Hid (Fr (fun k => k = gp ∨ k = gn ∨ k = gs) w wr)) (fun i _ => l.length - (intOf i).toNat)
  case atStart => exact ⟨0, by omega, rfl, by show SInv _ _ _ _ _; simpa using HS.out, Fr.refl _ _⟩
  case round =>
    obtain ⟨j, hj, rfl, hI, hF⟩ := hrel
    by_cases hlt : j < l.length
    · obtain ⟨ad, rfl, hcell⟩ := Rd.at_ (HR.out.keep hF.out fun k _ h1 h2 => by rcases h2 with rfl | rfl | rfl <;> contradiction) hlt
      obtain ⟨y, hy⟩ : ∃ y, y = l[j] := ⟨_, rfl⟩
      rw [← hy] at hcell
      obtain ⟨u, hu⟩ : ∃ u, u = m ++ l.take j := ⟨_, rfl⟩
      have hul : u.length = m.length + j := by rw [hu, List.length_append, List.length_take]; omega
      have hu1 : m ++ l.take (j + 1) = u ++ [y] := by rw [hu, hy, List.take_succ_eq_append_getElem hlt, List.append_assoc]
      have hI' := hI.out
      rw [← hu] at hI'
      obtain ⟨iS, iN, q, hw, iP⟩ := hI'
      have IS := Lib.hid iS
      have IN := Lib.hid iN
      have IP := Lib.hid iP
      have HW := fun _ : Unit => hw
      have HU1 := fun _ : Unit => hu1
      have c1 : wr.cell? ⟨gn, 0, none⟩ = some (.int .i64 (u.length : Int)) := iN.cell 0
      have f1 := iN.frozen 0
      have hub : u.length ≤ 1125899906842624 := by omega
      have h64 : u.length % 64 < 64 := Nat.mod_lt _ (by omega)
      have cp := (iP.cell (u.length % 64)).trans ((List.getElem?_toArray ..).trans (bc_get q (u.length % 64) (by rw [hw.1]; exact h64)))
      obtain ⟨z, hz⟩ : ∃ z, z = q[u.length % 64]'(by rw [hw.1]; exact h64) := ⟨_, rfl⟩
      rw [← hz] at cp
      have fp := iP.frozen (u.length % 64)
      clear hz
      have HUL := fun _ : Unit => hul
      clear hy hu hu1 iS iN iP hw hI hul
      obtain ⟨W2, hW2⟩ : ∃ W2, W2 = (wr.setCell ⟨gp, u.length % 64, none⟩ (.int .u8 (y.toNat : Int))).setCell ⟨gn, 0, none⟩ (.int .i64 ((u.length : Int) + 1)) := ⟨_, rfl⟩
      have bP : Blk W2 gp 66 (bc (q.set (u.length % 64) y)).toArray := by
        have h1 := IP.out.set_ (u.length % 64) (.int .u8 (y.toNat : Int))
        rw [hW2]
        have h2 : (bc q).toArray.setIfInBounds (u.length % 64) (.int .u8 (y.toNat : Int)) = (bc (q.set (u.length % 64) y)).toArray := by simp [bc, List.map_set]
        rw [h2] at h1
        exact h1.far (p := ⟨gn, 0, none⟩) hpn _
      have bN : Blk W2 gn 2 #[.int .i64 ((u.length : Int) + 1)] := by
        rw [hW2]
        exact (IN.out.far (p := ⟨gp, u.length % 64, none⟩) (Ne.symm hpn) _).set_ 0 _
      have bS : Blk W2 gs 81 (ua (foldB (u.length / 64) iv u).l) := by
        rw [hW2]
        exact (IS.out.far (p := ⟨gp, u.length % 64, none⟩) (Ne.symm hps) _).far (p := ⟨gn, 0, none⟩) (Ne.symm hns) _
      have hF2 : Fr (fun k => k = gp ∨ k = gn ∨ k = gs) w W2 := by
        rw [hW2]
        exact (hF.out.set1 (Or.inl rfl) _).set1 (Or.inr (Or.inl rfl)) _
      have BP := Lib.hid bP
      have BN := Lib.hid bN
      have BS := Lib.hid bS
      have HF2 := Lib.hid hF2
      have HW2 := fun _ : Unit => hW2
      clear bP bN bS hF2
      by_cases hfull : (u.length + 1) % 64 = 0
      · have ht : (((u.length : Int) + 1) % 64 == 0) = true := by rw [beq_iff_eq]; omega
        have hsz : (Tryd.prog.info? 66).map (·.size) = some (bc (q.set (u.length % 64) y)).toArray.size := by
          rw [show (bc (q.set (u.length % 64) y)).toArray.size = 64 from by simp [(HW ()).1]]
          kernel_rfl
        have HSZ := fun _ : Unit => hsz
        clear hW2 hsz
        go_wp2_with (refine wpList_load_row rfl 66 _ rfl gp rfl 66 (bc (q.set (u.length % 64) y)).toArray (0, 0) _ (by rw [← HW2 ()]; exact BP.out) Tryd.underlying66 rfl (HSZ ()) ?_; rw [← HW2 ()])
        have hG2 : Glb W2 := HG.out.keep HF2.out fun k _ h1 h2 => by subst h1; rcases h2 with h | h | h <;> omega
        have hff := foldB_full iv (HW ()) y hfull
        refine (hblk_calls gs _ (foldB_ok _ _ _ iv_ok) _ (by rw [List.length_set]; exact (HW ()).1) W2 BS.out hG2 hs0).mono ?_
        rintro e w5 ⟨rfl, hS5, hF5⟩
        rw [← hff.1] at hS5
        have hI5 : Hid (SInv w5 gp gn gs (m ++ l.take (j + 1))) := by
          show SInv _ _ _ _ _
          rw [HU1 ()]
          exact ⟨hS5, by rw [List.length_append]; exact BN.out.keep hF5 hns, _, hff.2, BP.out.keep hF5 hps⟩
        have hF6 : Hid (Fr (fun k => k = gp ∨ k = gn ∨ k = gs) w w5) := HF2.out.trans (hF5.mono fun k _ h => Or.inr (Or.inr h))
        clear hS5 hF5 hff hG2 ht
        go_wp2_with fail
        go_roundw
        case rel => exact ⟨j + 1, by omega, by go_num, hI5, hF6⟩
        case measure => simp [intOf]; omega
      · have ht : (((u.length : Int) + 1) % 64 == 0) = false := by rw [beq_eq_false_iff_ne]; omega
        have hI5 : Hid (SInv W2 gp gn gs (m ++ l.take (j + 1))) := by
          show SInv _ _ _ _ _
          rw [HU1 ()]
          exact ⟨by rw [foldB_more iv y hfull]; exact BS.out, by rw [List.length_append]; exact BN.out, _, waits_set (HW ()) y hfull, BP.out⟩
        clear hW2
        go_wp2_with fail
        go_roundw
        case rel =>
          rw [← HW2 ()]
          exact ⟨j + 1, by omega, by go_num, hI5, HF2⟩
        case measure => simp [intOf]; omega
    · have hjl : j = l.length := by omega
      subst hjl
      have hI' := hI.out
      rw [List.take_length] at hI'
      have HI := Lib.hid hI'
      clear hI hI'
      go_wp2
      go_end0
      exact ⟨rfl, HI.out, hF.out⟩
end Go.Proofs.YtbhaekdfpfncnaaDoor
