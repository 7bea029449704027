/- hkdf.Sum: SHA-256 of all pieces. -/
import Derived.Test.YtbhaekdfpfncnaaDoorHkC
namespace Go.Proofs.YtbhaekdfpfncnaaDoor
set_option linter.unusedVariables false
set_option linter.unusedSimpArgs false
open Go.RowKit

theorem S8.ok_get {v : S8} (h : v.ok) {n : Nat} (hn : n < 8) : v.l.getD n 0 < 4294967296 := by
  obtain ⟨h1, h2, h3, h4, h5, h6, h7, h8⟩ := h
  match n, hn with
  | 0, _ => exact h1
  | 1, _ => exact h2
  | 2, _ => exact h3
  | 3, _ => exact h4
  | 4, _ => exact h5
  | 5, _ => exact h6
  | 6, _ => exact h7
  | 7, _ => exact h8
/-- The first n words' bytes, then zeros. -/
def outP (v : S8) (n : Nat) : List UInt8 := (outB v).take (4 * n) ++ List.replicate (32 - 4 * n) 0
theorem outP_length (v : S8) (n : Nat) : (outP v n).length = 32 := by simp [outP, outB_length]; omega
theorem outP_set (v : S8) (n : Nat) (h : n < 8) :
    ((((outP v n).set (4 * n) (UInt8.ofNat (v.l.getD n 0 / 16777216))).set (4 * n + 1) (UInt8.ofNat (v.l.getD n 0 / 65536))).set (4 * n + 2) (UInt8.ofNat (v.l.getD n 0 / 256))).set (4 * n + 3) (UInt8.ofNat (v.l.getD n 0)) = outP v (n + 1) := by
  match n, h with
  | 0, _ => simp [outP, outB, be4, be, S8.l]
  | 1, _ => simp [outP, outB, be4, be, S8.l]
  | 2, _ => simp [outP, outB, be4, be, S8.l]
  | 3, _ => simp [outP, outB, be4, be, S8.l]
  | 4, _ => simp [outP, outB, be4, be, S8.l]
  | 5, _ => simp [outP, outB, be4, be, S8.l]
  | 6, _ => simp [outP, outB, be4, be, S8.l]
  | 7, _ => simp [outP, outB, be4, be, S8.l]

set_option maxHeartbeats 2000000 in
set_option maxRecDepth 4000 in
theorem hsum_calls (A : Option Addr) (ls : List (List UInt8)) (c : Nat) (w : World) (F : Nat → Prop) (hr : RdL w F A ls) (hG : Glb w) (hl : ls.flatten.length ≤ 1099511627776) (hn : ls.length ≤ 1099511627776) :
    Calls Tryd.prog 39 #[.slice A ls.length c] w fun e w' => e = .returned (.agg (bc (sha ls.flatten)).toArray) ∧ Below w.heap.size w w' := by
  have HR := Lib.hid (hr.mono (F' := fun k => k < w.heap.size) fun k hk _ => hk)
  have HG0 : 0 < w.heap.size := by
    obtain ⟨ad, e, _, hc⟩ := hG 0 _ rfl
    injection e with e
    subst e
    exact World.block_lt_of_cell? _ _ hc
  have HG := Lib.hid hG
  clear hr hG
  go_enter Tryd.func39, Tryd.ntmps39
  go_wp2_with (refine wpList_store_row rfl 81 _ _ rfl (w.heap.size + 1) (ua iv.l) rfl rfl 81 _ (Blk.newAt _ _ (by simp)) (by kernel_rfl) rfl (ua_one _) ?_)
  have z64 : (bc (List.replicate 64 0)).toArray = #[.int .u8 0, .int .u8 0, .int .u8 0, .int .u8 0, .int .u8 0, .int .u8 0, .int .u8 0, .int .u8 0, .int .u8 0, .int .u8 0, .int .u8 0, .int .u8 0, .int .u8 0, .int .u8 0, .int .u8 0, .int .u8 0, .int .u8 0, .int .u8 0, .int .u8 0, .int .u8 0, .int .u8 0, .int .u8 0, .int .u8 0, .int .u8 0, .int .u8 0, .int .u8 0, .int .u8 0, .int .u8 0, .int .u8 0, .int .u8 0, .int .u8 0, .int .u8 0, .int .u8 0, .int .u8 0, .int .u8 0, .int .u8 0, .int .u8 0, .int .u8 0, .int .u8 0, .int .u8 0, .int .u8 0, .int .u8 0, .int .u8 0, .int .u8 0, .int .u8 0, .int .u8 0, .int .u8 0, .int .u8 0, .int .u8 0, .int .u8 0, .int .u8 0, .int .u8 0, .int .u8 0, .int .u8 0, .int .u8 0, .int .u8 0, .int .u8 0, .int .u8 0, .int .u8 0, .int .u8 0, .int .u8 0, .int .u8 0, .int .u8 0, .int .u8 0] := by kernel_rfl
  have z32 : (bc (List.replicate 32 0)).toArray = #[.int .u8 0, .int .u8 0, .int .u8 0, .int .u8 0, .int .u8 0, .int .u8 0, .int .u8 0, .int .u8 0, .int .u8 0, .int .u8 0, .int .u8 0, .int .u8 0, .int .u8 0, .int .u8 0, .int .u8 0, .int .u8 0, .int .u8 0, .int .u8 0, .int .u8 0, .int .u8 0, .int .u8 0, .int .u8 0, .int .u8 0, .int .u8 0, .int .u8 0, .int .u8 0, .int .u8 0, .int .u8 0, .int .u8 0, .int .u8 0, .int .u8 0, .int .u8 0] := by kernel_rfl
  have Z64 := fun _ : Unit => z64
  have Z32 := fun _ : Unit => z32
  clear z64 z32
  go_loopw [15] (fun i wr => ∃ k : Nat, k ≤ ls.length ∧ i = .int .i64 k ∧ Hid (SInv wr (w.heap.size + 2) (w.heap.size + 3) (w.heap.size + 1) (ls.take k).flatten) ∧ Hid (Blk wr w.heap.size 31 (bc (List.replicate 32 0)).toArray) ∧ Below w.heap.size w wr) (fun i _ => ls.length - (intOf i).toNat)
  case atStart =>
    refine ⟨0, by omega, rfl, ?_, ?_, ?_⟩
    · show SInv _ _ _ _ _
      refine ⟨?_, ?_, List.replicate 64 0, ⟨by simp, by simp⟩, ?_⟩
      · rw [show foldB ((ls.take 0).flatten.length / 64) iv (ls.take 0).flatten = iv from by simp [foldB]]
        exact (((Blk.newAt _ _ (by simp)).setRow (ua iv.l)).alloc _).alloc _
      · show Blk _ _ _ #[.int .i64 0]
        exact Blk.newAt _ _ (by simp)
      · rw [Z64 ()]
        exact (Blk.newAt _ _ (by simp)).alloc _
    · show Blk _ _ _ _
      rw [Z32 ()]
      exact ((((Blk.new _ _ _).alloc _).setRow_far (by omega) _).alloc _).alloc _
    · exact ((below_setRow_own (((Below.refl _ _).alloc (Nat.le_refl _) _).alloc (by simp) _) (by omega) _).alloc (by simp; omega) _).alloc (by simp; omega) _
  case round =>
    obtain ⟨k, hk, rfl, hI, hO, hbel⟩ := hrel
    by_cases hlt : k < ls.length
    · obtain ⟨b1, off1, rfl, hb1, hcell1⟩ := RdL.form (HR.out.below hbel) (by omega)
      obtain ⟨a3, c3, hc3, hr3, hlc3⟩ := hcell1 k _ (List.getElem?_eq_getElem hlt)
      clear hcell1
      have hle : (ls.take (k + 1)).flatten.length ≤ ls.flatten.length := by
        have := congrArg List.length (congrArg List.flatten (List.take_append_drop (k + 1) ls))
        rw [List.flatten_append, List.length_append] at this
        omega
      have htk : (ls.take (k + 1)).flatten = (ls.take k).flatten ++ ls[k] := by rw [List.take_succ_eq_append_getElem hlt, List.flatten_append]; simp [List.flatten]
      obtain ⟨l3, hl3⟩ : ∃ l3, l3 = ls[k] := ⟨_, rfl⟩
      rw [← hl3] at hc3 hr3 hlc3 htk
      obtain ⟨m, hm⟩ : ∃ m, m = (ls.take k).flatten := ⟨_, rfl⟩
      have hI' := hI.out
      rw [← hm] at hI' htk
      have hml : m.length + l3.length ≤ 1099511627776 := by
        rw [htk, List.length_append] at hle
        omega
      have HI := Lib.hid hI'
      have HTK := fun _ : Unit => htk
      have HR3 := Lib.hid hr3
      clear hl3 hm hI hI' htk hle hr3
      go_wp2_with fail
      refine (take_calls (w.heap.size + 2) (w.heap.size + 3) (w.heap.size + 1) (by omega) (by omega) (by omega) (by omega) (by omega) (by omega) m l3 a3 c3 wr _ HR3.out (by omega) (by omega) (by omega) (HG.out.belowB hbel fun k hk => by subst hk; exact HG0) HI.out (by omega)).mono ?_
      rintro e w5 ⟨rfl, hI5, hF5⟩
      have hI6 : Hid (SInv w5 (w.heap.size + 2) (w.heap.size + 3) (w.heap.size + 1) (ls.take (k + 1)).flatten) := by show SInv _ _ _ _ _; rw [HTK ()]; exact hI5
      have hO5 := Lib.hid (hO.out.keep hF5 (by omega))
      have a5 := below_fr hbel hF5 (Nat.le_refl _) fun k hk h => by omega
      clear hI5 hF5
      go_wp2_with fail
      go_roundw
      case rel => exact ⟨k + 1, by omega, by go_num, hI6, hO5, a5⟩
      case measure => simp [intOf]; omega
    · have hkl : k = ls.length := by omega
      subst hkl
      have hI' := hI.out
      rw [List.take_length] at hI'
      obtain ⟨u, hu⟩ : ∃ u, u = ls.flatten := ⟨_, rfl⟩
      rw [← hu] at hI' hl
      have HI := Lib.hid hI'
      have HU := fun _ : Unit => hu
      have cn : wr.cell? ⟨w.heap.size + 1 + 1 + 1, 0, none⟩ = some (.int .i64 (u.length : Int)) := hI'.2.1.cell 0
      clear hI hI' hu
      go_wp2_with fail
      refine (pad_calls u.length wr (by omega)).mono ?_
      rintro e w6 ⟨A6, c6, rfl, hown6, hb6⟩
      have hr6 := Rd.of_own hown6 (by omega)
      have hpl := padB_length u.length
      have HPM := fun _ : Unit => pad_mod u.length
      obtain ⟨pd, hpd⟩ : ∃ pd, pd = padB u.length := ⟨_, rfl⟩
      rw [← hpd] at hr6 hpl ⊢
      have hpl2 : pd.length ≤ 72 := by omega
      have HPD := fun _ : Unit => hpd
      have HR6 := Lib.hid hr6
      have HI6 := Lib.hid (HI.out.keep (Fr.new (S := fun _ => False) hb6) (fun h => h) (fun h => h) (fun h => h))
      have HO6 := Lib.hid (hO.out.below hb6)
      have a6 := below_then hbel hb6 (Nat.le_refl _)
      have hs6 := hbel.size
      have hO3 := hO.out.lt
      have hi1 := HI.out.1.lt
      have hi2 := HI.out.2.1.lt
      have HG6 := Lib.hid (HG.out.belowB a6 fun k hk => by subst hk; exact HG0)
      clear cn hown6 hpl hpd hr6
      go_wp2_with fail
      refine (take_calls (w.heap.size + 2) (w.heap.size + 3) (w.heap.size + 1) (by omega) (by omega) (by omega) (by omega) (by omega) (by omega) u pd A6 c6 w6 _ HR6.out (by omega) (by omega) (by omega) HG6.out HI6.out (by omega)).mono ?_
      rintro e w7 ⟨rfl, hI7, hF7⟩
      obtain ⟨v, hv⟩ : ∃ v, v = foldB ((u ++ pd).length / 64) iv (u ++ pd) := ⟨_, rfl⟩
      have hS7 := hI7.1
      rw [← hv] at hS7
      have HV := fun _ : Unit => hv
      have HS7 := Lib.hid hS7
      have HO7 := Lib.hid (HO6.out.keep hF7 (by omega))
      have a7 := below_fr a6 hF7 (Nat.le_refl _) fun k hk h => by omega
      have hs7 := a7.size
      clear hI7 hF7 hv hS7 HI6 HO6 HG6 HI HR6
      go_wp2_with (refine wpList_load_row rfl 81 _ rfl (w.heap.size + 1) rfl 81 (ua v.l) (0, 0) _ HS7.out Tryd.underlying81 rfl (by kernel_rfl) ?_)
      generalize hua : ua v.l = UV
      have HUA := fun _ : Unit => hua
      have HVO : v.ok := by rw [HV ()]; exact foldB_ok _ _ _ iv_ok
      have HVL := fun (n : Nat) (h : n < 8) => S8.ok_get HVO h
      clear hua HS7 HVO
      go_loopw [28] (fun i wr => ∃ n : Nat, n ≤ 8 ∧ i = .int .i64 n ∧ Hid (Blk wr w.heap.size 31 (bc (outP v n)).toArray) ∧ Hid (Below w.heap.size w wr)) (fun i _ => 8 - (intOf i).toNat)
      case atStart => exact ⟨0, by omega, rfl, HO7.out, a7⟩
      case round =>
        clear HO7 a7 hs7
        obtain ⟨n, hn, rfl, hB, hfr⟩ := hrel
        by_cases hlt : n < 8
        · have hix : UV[n]? = some (.int .u32 ((v.l.getD n 0 : Nat) : Int)) := by rw [← HUA ()]; exact ua_get v.l n hlt
          have hpk := pick8 wr UV n _ hlt hix
          have hxb := HVL n hlt
          have hst := outP_set v n hlt
          obtain ⟨x, hx⟩ : ∃ x, x = v.l.getD n 0 := ⟨_, rfl⟩
          rw [← hx] at hpk hxb hst
          have HST := fun _ : Unit => hst
          have hf0 := hB.out.frozen (4 * n)
          have hf1 := hB.out.frozen (4 * n + 1)
          have hf2 := hB.out.frozen (4 * n + 2)
          have hf3 := hB.out.frozen (4 * n + 3)
          have hc0 := (hB.out.cell (4 * n)).trans ((List.getElem?_toArray ..).trans (bc_get (outP v n) (4 * n) (by rw [outP_length]; omega)))
          have hc1 := (hB.out.cell (4 * n + 1)).trans ((List.getElem?_toArray ..).trans (bc_get (outP v n) (4 * n + 1) (by rw [outP_length]; omega)))
          have hc2 := (hB.out.cell (4 * n + 2)).trans ((List.getElem?_toArray ..).trans (bc_get (outP v n) (4 * n + 2) (by rw [outP_length]; omega)))
          have hc3 := (hB.out.cell (4 * n + 3)).trans ((List.getElem?_toArray ..).trans (bc_get (outP v n) (4 * n + 3) (by rw [outP_length]; omega)))
          generalize (outP v n)[4 * n]'_ = y0 at hc0
          generalize (outP v n)[4 * n + 1]'_ = y1 at hc1
          generalize (outP v n)[4 * n + 2]'_ = y2 at hc2
          generalize (outP v n)[4 * n + 3]'_ = y3 at hc3
          clear hix hx hst
          go_wp2_with fail
          go_roundw
          case rel =>
            refine ⟨n + 1, by omega, by go_num, ?_, ?_⟩
            · have hb := ((((hB.out.set_ (4 * n) (.int .u8 ((UInt8.ofNat (x / 16777216)).toNat : Int))).set_ (4 * n + 1) (.int .u8 ((UInt8.ofNat (x / 65536)).toNat : Int))).set_ (4 * n + 2) (.int .u8 ((UInt8.ofNat (x / 256)).toNat : Int))).set_ (4 * n + 3) (.int .u8 ((UInt8.ofNat x).toNat : Int)))
              have e0 : ((UInt8.ofNat (x / 16777216)).toNat : Int) = (x : Int) / 16777216 := by rw [UInt8.toNat_ofNat']; omega
              have e1 : ((UInt8.ofNat (x / 65536)).toNat : Int) = (x : Int) / 65536 % 256 := by rw [UInt8.toNat_ofNat']; omega
              have e2 : ((UInt8.ofNat (x / 256)).toNat : Int) = (x : Int) / 256 % 256 := by rw [UInt8.toNat_ofNat']; omega
              have e3 : ((UInt8.ofNat x).toNat : Int) = (x : Int) % 256 := by rw [UInt8.toNat_ofNat']; omega
              have hs : ∀ (l : List UInt8) (i : Nat) (u : UInt8), (bc l).toArray.setIfInBounds i (.int .u8 (u.toNat : Int)) = (bc (l.set i u)).toArray := fun l i u => by simp [bc, List.map_set]
              rw [hs, hs, hs, hs, HST ()] at hb
              rw [e0, e1, e2, e3] at hb
              exact hb
            · exact (((hfr.out.setCell (by simp) _).setCell (by simp) _).setCell (by simp) _).setCell (by simp) _
          case measure => simp [intOf]; omega
        · have h8 : n = 8 := by omega
          subst h8
          have hB8 := hB.out
          rw [show outP v 8 = sha ls.flatten from by
            unfold outP sha
            rw [List.take_of_length_le (by rw [outB_length]; omega), ← HU (), ← HPD ()]
            show outB v ++ List.replicate (32 - 4 * 8) 0 = outB (foldB ((u ++ pd).length / 64) iv (u ++ pd))
            rw [← HV ()]
            simp] at hB8
          have HB8 := Lib.hid hB8
          have h32 : (bc (sha ls.flatten)).toArray.size = 32 := by simp [sha_length]
          have H32 := fun _ : Unit => h32
          have hone : (bc (sha ls.flatten)).toArray.all (·.oneCell') = true := by rw [Array.all_eq_true']; intro u hu; exact bc_one _ u (by simpa using hu)
          have HONE := fun _ : Unit => hone
          clear hB hB8 h32 hone
          go_wp2_with (first | (refine wpList_load_row rfl 31 _ rfl w.heap.size rfl 31 (bc (sha ls.flatten)).toArray (0, 0) _ HB8.out Tryd.underlying31 rfl (by rw [H32 ()]; kernel_rfl) ?_) | (refine wpList_store_row rfl 31 _ _ rfl w.heap.size (bc (sha ls.flatten)).toArray rfl rfl 31 (bc (sha ls.flatten)).toArray HB8.out (by rw [H32 ()]; kernel_rfl) rfl (HONE ()) ?_))
          refine bodyPost_ret (results_cell_row rfl _ _ w.heap.size 31 (bc (sha ls.flatten)).toArray (0, 0) _ rfl (HB8.out.setRow _) Tryd.underlying31 rfl (by rw [H32 ()]; kernel_rfl)) rfl ?_
          exact ⟨rfl, below_setRow_own hfr.out (Nat.le_refl _) _⟩
end Go.Proofs.YtbhaekdfpfncnaaDoor
