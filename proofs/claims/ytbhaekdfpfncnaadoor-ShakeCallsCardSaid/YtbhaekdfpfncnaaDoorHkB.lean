/- hkdf's block: 64 bytes go into the state. -/
import Derived.Test.YtbhaekdfpfncnaaDoorHkA
import Derived.Test.YtbhaekdfpfncnaaDoorRegionG
import Derived.Deep.WholeRow
import Derived.Deep.MidRow
import Derived.Deep.LoopGhost
import Derived.BigQuiet
import Derived.Deep.DeepMust
import Derived.Laws.PanicsMore
namespace Go.Proofs.YtbhaekdfpfncnaaDoor
set_option linter.unusedVariables false
set_option linter.unusedSimpArgs false
open Go.RowKit

theorem al64 : Tryd.prog.arrayLen 66 = 64 := by kernel_rfl
theorem el64 : Tryd.prog.elem 66 = 5 := by kernel_rfl
theorem cut64 (w : World) (g n : Nat) (h : n < 16) : (Instr.sliceAt 66 (.pointer (some ⟨g, 0, none⟩)) (some (.int .i64 (4 * (n : Int)))) (some (.int .i64 (4 * (n : Int) + 4))) none).run Tryd.prog w = .ok (.slice (some ⟨g, 4 * n, none⟩) 4 (64 - 4 * n)) w := by
  obtain ⟨i0, hi0, hz0, hz1, hz2⟩ := info_parts info_u8
  rw [run_sliceAt_array_lh w 66 ⟨g, 0, none⟩ (by rw [al64, el64]; exact Tryd.underlying66) .i64 .i64 _ _ (by omega) (by omega) (by rw [al64]; omega), el64, al64]
  have e1 : (4 * (n : Int)).toNat = 4 * n := by omega
  have e2 : (4 * (n : Int) + 4).toNat = 4 * n + 4 := by omega
  have e3 : ¬ (64 = 4 * n) := by omega
  have e4 : 4 * n + 4 - 4 * n = 4 := by omega
  simp [sizeOf, typeInfo, hi0, hz1, e1, e2, e3, e4, slicedAt, Addr.add]
  omega
theorem Blk.newAt {w : World} {g : Nat} (t : TypeId) (cs : Array Value) (hg : g = w.heap.size) : Blk (w.alloc (.cells cs t)) g t cs := by subst hg; exact Blk.new w t cs
/-- The cells of words. -/
def uw (l : List Nat) : List Value := l.map fun (n : Nat) => .int .u32 (n : Int)
def ua (l : List Nat) : Array Value := (uw l).toArray
/-- The rounds' constants, as they lie. -/
def Glb (w : World) : Prop := Rd w (fun k => k = 0) (some ⟨0, 0, none⟩) (uw rkL)

/-- The 64 words while word n is being made: x stands there. -/
def midW (b : List UInt8) (n x : Nat) : List Nat := wl b n ++ x :: List.replicate (63 - n) 0
theorem uw_length (l : List Nat) : (uw l).length = l.length := by simp [uw]
theorem uw_get (l : List Nat) (i : Nat) (h : i < l.length) : (uw l)[i]? = some (.int .u32 (l[i] : Int)) := by simp [uw, h]
theorem ua_get (l : List Nat) (i : Nat) (h : i < l.length) : (ua l)[i]? = some (.int .u32 ((l.getD i 0 : Nat) : Int)) := by simp [ua, uw, h, List.getD_eq_getElem?_getD]
theorem ua_set (l : List Nat) (i y : Nat) : (ua l).setIfInBounds i (.int .u32 (y : Int)) = ua (l.set i y) := by simp [ua, uw, List.map_set]
theorem midW_length (b : List UInt8) (n x : Nat) (h : n < 64) : (midW b n x).length = 64 := by simp [midW, wl_length]; omega
theorem midW_get (b : List UInt8) (n x : Nat) : (midW b n x).getD n 0 = x := by
  rw [List.getD_eq_getElem?_getD, midW, List.getElem?_append_right (by rw [wl_length]; exact Nat.le_refl _), wl_length, Nat.sub_self]
  rfl
theorem midW_old (b : List UInt8) (n x i : Nat) (h : i < n) : (midW b n x).getD i 0 = (wl b n).getD i 0 := by
  rw [List.getD_eq_getElem?_getD, List.getD_eq_getElem?_getD, midW, List.getElem?_append_left (by rw [wl_length]; exact h)]
theorem midW_set (b : List UInt8) (n x y : Nat) : (midW b n x).set n y = midW b n y := by
  unfold midW
  rw [List.set_append_right _ _ (by rw [wl_length]; exact Nat.le_refl _), wl_length, Nat.sub_self]
  rfl
theorem midW_next (b : List UInt8) (n : Nat) (h : n < 63) (x : Nat) (hx : wl b (n + 1) = wl b n ++ [x]) : midW b n x = midW b (n + 1) 0 := by
  unfold midW
  rw [hx, List.append_assoc, show 63 - n = (63 - (n + 1)) + 1 from by omega, List.replicate_succ]
  rfl
theorem midW_zero (b : List UInt8) : midW b 0 0 = List.replicate 64 0 := rfl
/-- The first j bytes of word i. -/
def pw (b : List UInt8) (i : Nat) : Nat → Nat
  | 0 => 0
  | j + 1 => pw b i j * 256 + (b.getD (4 * i + j) 0).toNat
theorem pw_lt (b : List UInt8) (i : Nat) : ∀ j, pw b i j < 256 ^ j
  | 0 => by simp [pw]
  | j + 1 => by
    have := pw_lt b i j
    have h := (b.getD (4 * i + j) 0).toNat_lt
    rw [pw, Nat.pow_succ]
    omega
theorem pw_four (b : List UInt8) (i : Nat) : pw b i 4 = wrd b i := by simp [pw, wrd]
theorem or_byte32 (v y : Nat) (hv : v < 16777216) (hy : y < 256) : bits .or .u32 ((v : Int) * 256) (y : Int) = ((v * 256 + y : Nat) : Int) := by
  have h : (v : Int) * 256 = ((2 ^ 8 * v : Nat) : Int) := by omega
  rw [h, u32_or_nat _ _ (by omega) (by omega), ← Nat.two_pow_add_eq_or_of_lt (by omega)]
  congr 1
  omega

/-- While one cell of a row is reckoned anew: row g reads as A until the store K is done, then as A'. -/
def rowJ (w0 : World) (g K : Nat) (t : TypeId) (A A' : Array Value) (dn : Nat → Bool) (w : World) (γ : Unit) : Prop := Fr (fun k => k = g) w0 w ∧ Blk w g t (if dn K then A' else A)
theorem rowJ_same {w0 : World} {g K : Nat} {t : TypeId} {A A' : Array Value} {dn : Nat → Bool} {w : World} {γ : Unit} {i : Nat} (hi : i ≠ K) (h : rowJ w0 g K t A A' dn w γ) : rowJ w0 g K t A A' (did dn i) w γ := by
  refine ⟨h.1, ?_⟩
  simp only [did, if_neg (Ne.symm hi)]
  exact h.2
theorem rowJ_cell {w0 : World} {g K : Nat} {t : TypeId} {A A' : Array Value} {dn : Nat → Bool} {w : World} {γ : Unit} {i : Nat} {v : Value} (h : rowJ w0 g K t A A' dn w γ) (h1 : A[i]? = some v) (h2 : A'[i]? = some v) : w.cell? ⟨g, i, none⟩ = some v := by
  rw [h.2.cell i]
  split
  · exact h2
  · exact h1
def PrG.isU {T : World → Unit → World → Unit → Prop} (x : Nat) : PrG T := PrG.is (.int .u32 (x : Int))

theorem ua_one (l : List Nat) : (ua l).all (·.oneCell') = true := by
  rw [Array.all_eq_true_iff_forall_mem]
  intro v hv
  simp only [ua, uw, List.mem_toArray, List.mem_map] at hv
  obtain ⟨n, _, rfl⟩ := hv
  rfl
theorem glb_range {w : World} (h : Glb w) : w.rangeAt 0 0 (uw rkL) := fun j v hv => by
  obtain ⟨ad, e, _, hc⟩ := h j v hv
  injection e with e
  subst e
  rw [Addr.add_mid] at hc
  exact hc
theorem not32 (y : Nat) (hy : y < 4294967296) : 4294967295 ^^^ y = 4294967295 - y := by
  have h := congrArg BitVec.toNat (BitVec.allOnes_xor (x := BitVec.ofNat 32 y))
  rw [BitVec.toNat_not, BitVec.toNat_xor, BitVec.toNat_ofNat, BitVec.toNat_allOnes, Nat.mod_eq_of_lt hy] at h
  exact h
theorem not_u32 (y : Nat) (hy : y < 4294967296) : bits .xor .u32 4294967295 (y : Int) = ((4294967295 - y : Nat) : Int) := by
  rw [← not32 y hy]
  exact u32_xor_nat 4294967295 y (by omega) hy
theorem pick64 (w : World) (cs : Array Value) (n : Nat) (v : Value) (h : n < 64) (hc : cs[n]? = some v) : (Instr.index 91 (.agg cs) (.int .i64 (n : Int))).run Tryd.prog w = .ok v w := by
  have h1 : (n : Int) < 64 := by omega
  have h2 : ¬ (n : Int) < 0 := by omega
  simp [Instr.index, run_underlying Tryd.underlying91, asIntOf, go_sem, h1, h2, hc]
  intro h3
  omega
theorem pick8 (w : World) (cs : Array Value) (n : Nat) (v : Value) (h : n < 8) (hc : cs[n]? = some v) : (Instr.index 81 (.agg cs) (.int .i64 (n : Int))).run Tryd.prog w = .ok v w := by
  have h1 : (n : Int) < 8 := by omega
  have h2 : ¬ (n : Int) < 0 := by omega
  simp [Instr.index, run_underlying Tryd.underlying81, asIntOf, go_sem, h1, h2, hc]
  intro h3
  omega
/-- The state while the sums are being laid: i of them stand. -/
def addL (s v : S8) (i : Nat) : List Nat := (addS s v).l.take i ++ s.l.drop i
theorem addL_length (s v : S8) (i : Nat) (h : i ≤ 8) : (addL s v i).length = 8 := by
  have h1 : (addS s v).l.length = 8 := rfl
  have h2 : s.l.length = 8 := rfl
  simp only [addL, List.length_append, List.length_take, List.length_drop, h1, h2]
  omega
theorem addL_get (s v : S8) (i : Nat) (h : i < 8) : (addL s v i).getD i 0 = s.l.getD i 0 := by
  have h1 : (addS s v).l.length = 8 := rfl
  rw [List.getD_eq_getElem?_getD, List.getD_eq_getElem?_getD, addL, List.getElem?_append_right (by rw [List.length_take, h1]; omega), List.length_take, h1, Nat.min_eq_left (by omega), Nat.sub_self, List.getElem?_drop, Nat.add_zero]
theorem addL_set (s v : S8) (i : Nat) (h : i < 8) : (addL s v i).set i ((s.l.getD i 0 + v.l.getD i 0) % 4294967296) = addL s v (i + 1) := by
  match i, h with
  | 0, _ => rfl
  | 1, _ => rfl
  | 2, _ => rfl
  | 3, _ => rfl
  | 4, _ => rfl
  | 5, _ => rfl
  | 6, _ => rfl
  | 7, _ => rfl
def stayJ (w0 : World) (dn : Nat → Bool) (w : World) (γ : Unit) : Prop := Fr (fun _ => False) w0 w
theorem stayJ_same {w0 : World} {dn : Nat → Bool} {w : World} {γ : Unit} {i : Nat} (hi : i ≠ 1000) (h : stayJ w0 dn w γ) : stayJ w0 (did dn i) w γ := h

set_option maxHeartbeats 2000000 in
set_option maxRecDepth 8000 in
theorem hblk_calls (gs : Nat) (s : S8) (hs : s.ok) (b : List UInt8) (hb : b.length = 64) (w : World) (hS : Blk w gs 81 (ua s.l)) (hG : Glb w) (hg0 : gs ≠ 0) :
    Calls Tryd.prog 78 #[.pointer (some ⟨gs, 0, none⟩), .agg (bc b).toArray] w fun e w' => e = .returned (.tuple #[]) ∧ Blk w' gs 81 (ua (blkF s b).l) ∧ Fr (fun k => k = gs) w w' := by
  have HS := Lib.hid hS
  have HG := Lib.hid hG
  have HG0 : 0 < w.heap.size := by
    obtain ⟨ad, e, _, hc⟩ := hG 0 _ rfl
    injection e with e
    subst e
    exact World.block_lt_of_cell? _ _ hc
  clear hS hG
  go_enter Tryd.func78, Tryd.ntmps78
  go_wp2_with fail
  have h0 : ua (midW b 0 0) = #[.int .u32 0, .int .u32 0, .int .u32 0, .int .u32 0, .int .u32 0, .int .u32 0, .int .u32 0, .int .u32 0, .int .u32 0, .int .u32 0, .int .u32 0, .int .u32 0, .int .u32 0, .int .u32 0, .int .u32 0, .int .u32 0, .int .u32 0, .int .u32 0, .int .u32 0, .int .u32 0, .int .u32 0, .int .u32 0, .int .u32 0, .int .u32 0, .int .u32 0, .int .u32 0, .int .u32 0, .int .u32 0, .int .u32 0, .int .u32 0, .int .u32 0, .int .u32 0, .int .u32 0, .int .u32 0, .int .u32 0, .int .u32 0, .int .u32 0, .int .u32 0, .int .u32 0, .int .u32 0, .int .u32 0, .int .u32 0, .int .u32 0, .int .u32 0, .int .u32 0, .int .u32 0, .int .u32 0, .int .u32 0, .int .u32 0, .int .u32 0, .int .u32 0, .int .u32 0, .int .u32 0, .int .u32 0, .int .u32 0, .int .u32 0, .int .u32 0, .int .u32 0, .int .u32 0, .int .u32 0, .int .u32 0, .int .u32 0, .int .u32 0, .int .u32 0] := by kernel_rfl
  have H0 := Lib.hid h0
  clear h0
  go_loopw [22] (fun i wr => ∃ n : Nat, n ≤ 16 ∧ i = .int .i64 n ∧ Hid (Blk wr (w.heap.size + 1) 91 (ua (midW b n 0))) ∧ Hid (Blk wr w.heap.size 66 (bc b).toArray) ∧ Below w.heap.size w wr) (fun i _ => 16 - (intOf i).toNat)
  case atStart => exact ⟨0, by omega, rfl, by show Blk _ _ _ _; rw [H0.out]; exact Blk.newAt _ _ (by simp), (Blk.new w _ _).alloc _, ((Below.refl _ _).alloc (Nat.le_refl _) _).alloc (by simp) _⟩
  case round =>
    clear H0
    obtain ⟨n, hn, rfl, hW, hB, hbel⟩ := hrel
    by_cases hlt : n < 16
    · have hsl := cut64 wr w.heap.size n hlt
      go_wp2_with fail
      go_loopw [32] (fun i wr => ∃ j : Nat, j ≤ 4 ∧ i = .int .i64 j ∧ Hid (Blk wr (w.heap.size + 1) 91 (ua (midW b n (pw b n j)))) ∧ Hid (Blk wr w.heap.size 66 (bc b).toArray) ∧ Below w.heap.size w wr) (fun i _ => 4 - (intOf i).toNat)
      case atStart => exact ⟨0, by omega, rfl, hW, hB, hbel⟩
      case round =>
        clear hW hB hbel hsl
        obtain ⟨j, hj, rfl, hW, hB, hbel⟩ := hrel
        by_cases hj4 : j < 4
        · have hp := pw_lt b n j
          have hp24 : pw b n j < 16777216 := Nat.lt_of_lt_of_le hp (Nat.pow_le_pow_right (n := 256) (i := j) (j := 3) (by omega) (by omega))
          obtain ⟨x, hx⟩ : ∃ x, x = pw b n j := ⟨_, rfl⟩
          have hc1 := (hB.out.cell (4 * n + j)).trans ((List.getElem?_toArray ..).trans (bc_get b (4 * n + j) (by omega)))
          have hc2 := (hW.out.cell n).trans (ua_get _ n (by rw [midW_length _ _ _ (by omega)]; omega))
          rw [midW_get] at hc2
          have hfz := hW.out.frozen n
          obtain ⟨y, hy⟩ : ∃ y, y = b[4 * n + j] := ⟨_, rfl⟩
          rw [← hy] at hc1
          rw [← hx] at hc2 hp24
          have hpx : pw b n (j + 1) = x * 256 + y.toNat := by
            rw [pw, ← hx, hy, List.getD_eq_getElem?_getD, List.getElem?_eq_getElem (by omega)]
            rfl
          have hy8 := y.toNat_lt
          have hor := or_byte32 x y.toNat hp24 hy8
          have HPX := Lib.hid hpx
          have HX := Lib.hid hx
          clear hp hx hy hpx
          go_wp2
          go_roundw
          case rel =>
            refine ⟨j + 1, by omega, by go_num, ?_, (hB.out.far (by simp) _), hbel.setCell (p := ⟨w.heap.size + 1, n, none⟩) (by simp) _⟩
            show Blk _ _ _ _
            have h1 := hW.out.set_ n (.int .u32 ((x * 256 + y.toNat : Nat) : Int))
            rw [ua_set, midW_set, ← HPX.out] at h1
            rw [show (x : Int) * 256 + (y.toNat : Int) = ((pw b n (j + 1) : Nat) : Int) from by rw [HPX.out]; omega]
            exact h1
          case measure => simp [intOf]; omega
        · have hj4' : j = 4 := by omega
          subst hj4'
          have hW2 : Hid (Blk wr (w.heap.size + 1) 91 (ua (midW b (n + 1) 0))) := by
            show Blk _ _ _ _
            have h1 := hW.out
            rw [pw_four, midW_next b n (by omega) (wrd b n) (by show wl b n ++ [_] = _; rw [if_pos hlt])] at h1
            exact h1
          clear hW
          go_wp2
          go_roundw
          case rel => exact ⟨n + 1, by omega, by go_num, hW2, hB, hbel⟩
          case measure => simp [intOf]; omega
    · have hn16 : n = 16 := by omega
      subst hn16
      go_wp2_with fail
      go_loopw [8] (fun i wr => ∃ n : Nat, 16 ≤ n ∧ n ≤ 64 ∧ i = .int .i64 n ∧ Hid (n < 64 → Blk wr (w.heap.size + 1) 91 (ua (midW b n 0))) ∧ Hid (n = 64 → Blk wr (w.heap.size + 1) 91 (ua (wl b 64))) ∧ Below w.heap.size w wr) (fun i _ => 64 - (intOf i).toNat)
      case atStart => exact ⟨16, by omega, by omega, rfl, fun _ => hW.out, fun h => by omega, hbel⟩
      case round =>
        clear hW hB hbel
        obtain ⟨n, hn0, hn, rfl, hW, hW64, hbel⟩ := hrel
        by_cases hlt : n < 64
        · have hA := hW.out hlt
          clear hW hW64
          obtain ⟨x15, h15⟩ : ∃ x, x = (wl b n).getD (n - 15) 0 := ⟨_, rfl⟩
          obtain ⟨x2, h2⟩ : ∃ x, x = (wl b n).getD (n - 2) 0 := ⟨_, rfl⟩
          obtain ⟨x16, h16⟩ : ∃ x, x = (wl b n).getD (n - 16) 0 := ⟨_, rfl⟩
          obtain ⟨x7, h7⟩ : ∃ x, x = (wl b n).getD (n - 7) 0 := ⟨_, rfl⟩
          have l15 : x15 < 4294967296 := by rw [h15]; exact wl_lt _ _ _
          have l2 : x2 < 4294967296 := by rw [h2]; exact wl_lt _ _ _
          have l16 : x16 < 4294967296 := by rw [h16]; exact wl_lt _ _ _
          have l7 : x7 < 4294967296 := by rw [h7]; exact wl_lt _ _ _
          have hm : ∀ i, 0 < i ∧ i ≤ 16 → ∀ x, (ua (midW b n x))[n - i]? = some (.int .u32 (((wl b n).getD (n - i) 0 : Nat) : Int)) := fun i hi x => by
            have := ua_get (midW b n x) (n - i) (by rw [midW_length _ _ _ hlt]; omega)
            rwa [midW_old _ _ _ _ (by omega)] at this
          have hc15 := (hA.cell (n - 15)).trans (hm 15 (by omega) 0)
          have hc2 := (hA.cell (n - 2)).trans (hm 2 (by omega) 0)
          rw [← h15] at hc15
          rw [← h2] at hc2
          have HM := Lib.hid hm
          have HA := Lib.hid hA
          have hnx : (x16 + x7 + sg0 x15 + sg1 x2) % 4294967296 = if n < 16 then wrd b n else (((wl b n).getD (n - 16) 0) + ((wl b n).getD (n - 7) 0) + sg0 ((wl b n).getD (n - 15) 0) + sg1 ((wl b n).getD (n - 2) 0)) % 4294967296 := by rw [if_neg (by omega), ← h15, ← h2, ← h16, ← h7]
          have HNX := Lib.hid hnx
          have H15 := Lib.hid h15
          have H2 := Lib.hid h2
          have H16 := Lib.hid h16
          have H7 := Lib.hid h7
          clear hm hA hnx h15 h2 h16 h7
          go_wp2_with fail
          go_quiet (fail)
          go_wp2_with fail
          obtain ⟨y, hy⟩ : ∃ y, y = (x16 + x7 + sg0 x15 + sg1 x2) % 4294967296 := ⟨_, rfl⟩
          have r1 := rotr_lt x15 7 l15
          have r2 := rotr_lt x15 18 l15
          have r3 := rotr_lt x2 17 l2
          have r4 := rotr_lt x2 19 l2
          have r5 : rotr x15 7 ^^^ rotr x15 18 < 4294967296 := Nat.xor_lt_two_pow (n := 32) r1 r2
          have r6 : rotr x2 17 ^^^ rotr x2 19 < 4294967296 := Nat.xor_lt_two_pow (n := 32) r3 r4
          have k1 := u32_xor_nat _ _ r1 r2
          have k2 : bits .xor .u32 ((rotr x15 7 ^^^ rotr x15 18 : Nat) : Int) ((x15 : Int) / 8) = ((sg0 x15 : Nat) : Int) := u32_xor_nat _ (x15 / 8) r5 (by omega)
          have k3 := u32_xor_nat _ _ r3 r4
          have k4 : bits .xor .u32 ((rotr x2 17 ^^^ rotr x2 19 : Nat) : Int) ((x2 : Int) / 1024) = ((sg1 x2 : Nat) : Int) := u32_xor_nat _ (x2 / 1024) r6 (by omega)
          have hyi : ((x16 : Int) + (x7 : Int) + ((sg0 x15 : Nat) : Int) + ((sg1 x2 : Nat) : Int)) % 4294967296 = (y : Int) := by rw [hy]; omega
          have HY := Lib.hid hy
          clear hy r1 r2 r3 r4 r5 r6
          generalize hg0 : sg0 x15 = z0 at k2 hyi
          generalize hg1 : sg1 x2 = z1 at k4 hyi
          generalize hq0 : (rotr x15 7 ^^^ rotr x15 18) = q0 at k1 k2
          generalize hq1 : (rotr x2 17 ^^^ rotr x2 19) = q1 at k3 k4
          have G1 := Lib.hid hg0
          have G2 := Lib.hid hg1
          have G3 := Lib.hid hq0
          have G4 := Lib.hid hq1
          clear hg0 hg1 hq0 hq1
          obtain ⟨p1, hp1⟩ : ∃ p, p = rotr x15 7 := ⟨_, rfl⟩
          obtain ⟨p2, hp2⟩ : ∃ p, p = rotr x15 18 := ⟨_, rfl⟩
          obtain ⟨p3, hp3⟩ : ∃ p, p = rotr x2 17 := ⟨_, rfl⟩
          obtain ⟨p4, hp4⟩ : ∃ p, p = rotr x2 19 := ⟨_, rfl⟩
          rw [← hp1, ← hp2] at k1
          rw [← hp3, ← hp4] at k3
          have P1 := Lib.hid hp1
          have P2 := Lib.hid hp2
          have P3 := Lib.hid hp3
          have P4 := Lib.hid hp4
          clear hp1 hp2 hp3 hp4
          have hw32 : ∀ x : Int, IntKind.u32.wrap x = x % 4294967296 := fun x => by simp [IntKind.wrap, IntKind.signed, IntKind.bits]
          have hw16 : IntKind.i64.wrap ((n : Int) - 16) = (n : Int) - 16 := IntWalk.i64_in _ ⟨by omega, by omega⟩
          have hw7 : IntKind.i64.wrap ((n : Int) - 7) = (n : Int) - 7 := IntWalk.i64_in _ ⟨by omega, by omega⟩
          have hi16 : (16 : Int) ≤ (n : Int) := by omega
          have hi7 : (7 : Int) ≤ (n : Int) := by omega
          have hj16 : (n : Int) - 16 < 64 := by omega
          have hj7 : (n : Int) - 7 < 64 := by omega
          have hq16 : ((n : Int) - 16).toNat = n - 16 := by omega
          have hq7 : ((n : Int) - 7).toNat = n - 7 := by omega
          refine region_toG (T := anyT) (J := rowJ wr (w.heap.size + 1) 29 91 (ua (midW b n 0)) (ua (midW b n y))) anyT_trans anyT_refl () (fun vs W γ => Fr (fun k => k = w.heap.size + 1) wr W ∧ Blk W (w.heap.size + 1) 91 (ua (midW b n y))) (by kernel_rfl) (by kernel_rfl) (by kernel_rfl) ⟨((Fr.refl _ _).drewN _).drew, (HA.out.drewN _).drew⟩ ?_ ?_
          · refine ⟨prOfG [.is (.int .i64 (n : Int)), .is (.int .i64 (n : Int)), .is (.int .i64 ((n : Int) - 16)), .is (.pointer (some ⟨w.heap.size + 1, n - 16, none⟩)), .isU x16, .is (.int .i64 (n : Int)), .is (.int .i64 ((n : Int) - 7)), .is (.pointer (some ⟨w.heap.size + 1, n - 7, none⟩)), .isU x7, .is (.int .u32 (((x16 : Int) + (x7 : Int)) % 4294967296)),
                .isU x15, .isU p1, .isU x15, .isU p2, .isU q0, .isU x15, .is (.int .u32 ((x15 : Int) / 8)), .isU z0, .is (.int .u32 (((x16 : Int) + (x7 : Int) + (z0 : Int)) % 4294967296)),
                .isU x2, .isU p3, .isU x2, .isU p4, .isU q1, .isU x2, .is (.int .u32 ((x2 : Int) / 1024)), .isU z1, .isU y, .is (.pointer (some ⟨w.heap.size + 1, n, none⟩)), .any], prOfG_st _, none_at 29 (by kernel_rfl) (fun _ _ _ h => h), ⟨?_, ?_, ?_, ?_, ?_, ?_, ?_, ?_, ?_, ?_, ?_, ?_, ?_, ?_, ?_, ?_, ?_, ?_, ?_, ?_, ?_, ?_, ?_, ?_, ?_, ?_, ?_, ?_, ?_, ?_, trivial⟩, fun vs W γ _ hJ _ => ⟨hJ.1, hJ.2⟩⟩
            · refine owes_plainG rfl fun dn a W γ hT hdn hdp hJ hf hd => ?_
              have e8 := hf 8 rfl
              exact step_val (w' := W) (by simp only [execOp]; go_simp) ⟨γ, anyT_refl _ _, rowJ_same (by decide) hJ, rfl⟩
            · refine owes_plainG rfl fun dn a W γ hT hdn hdp hJ hf hd => ?_
              have e8 := hf 8 rfl
              exact step_val (w' := W) (by simp only [execOp]; go_simp) ⟨γ, anyT_refl _ _, rowJ_same (by decide) hJ, rfl⟩
            · refine owes_plainG rfl fun dn a W γ hT hdn hdp hJ hf hd => ?_
              obtain ⟨v1, e1, rfl⟩ := hd 1 rfl
              exact step_val (w' := W) (by simp only [execOp]; go_simp) ⟨γ, anyT_refl _ _, rowJ_same (by decide) hJ, rfl⟩
            · refine owes_plainG rfl fun dn a W γ hT hdn hdp hJ hf hd => ?_
              have e4 := hf 4 rfl
              obtain ⟨v2, e2, rfl⟩ := hd 2 rfl
              exact step_val (w' := W) (by simp only [execOp]; go_simp) ⟨γ, anyT_refl _ _, rowJ_same (by decide) hJ, rfl⟩
            · refine owes_plainG rfl fun dn a W γ hT hdn hdp hJ hf hd => ?_
              obtain ⟨v0, e0, rfl⟩ := hd 3 rfl
              have hcw := rowJ_cell hJ (HM.out 16 (by omega) 0) (HM.out 16 (by omega) y)
              rw [← H16.out] at hcw
              exact step_val (w' := W) (by simp only [execOp]; go_simp) ⟨γ, anyT_refl _ _, rowJ_same (by decide) hJ, rfl⟩
            · refine owes_plainG rfl fun dn a W γ hT hdn hdp hJ hf hd => ?_
              have e8 := hf 8 rfl
              exact step_val (w' := W) (by simp only [execOp]; go_simp) ⟨γ, anyT_refl _ _, rowJ_same (by decide) hJ, rfl⟩
            · refine owes_plainG rfl fun dn a W γ hT hdn hdp hJ hf hd => ?_
              obtain ⟨v5, e5, rfl⟩ := hd 5 rfl
              exact step_val (w' := W) (by simp only [execOp]; go_simp) ⟨γ, anyT_refl _ _, rowJ_same (by decide) hJ, rfl⟩
            · refine owes_plainG rfl fun dn a W γ hT hdn hdp hJ hf hd => ?_
              have e4 := hf 4 rfl
              obtain ⟨v6, e6, rfl⟩ := hd 6 rfl
              exact step_val (w' := W) (by simp only [execOp]; go_simp) ⟨γ, anyT_refl _ _, rowJ_same (by decide) hJ, rfl⟩
            · refine owes_plainG rfl fun dn a W γ hT hdn hdp hJ hf hd => ?_
              obtain ⟨v0, e0, rfl⟩ := hd 7 rfl
              have hcw := rowJ_cell hJ (HM.out 7 (by omega) 0) (HM.out 7 (by omega) y)
              rw [← H7.out] at hcw
              exact step_val (w' := W) (by simp only [execOp]; go_simp) ⟨γ, anyT_refl _ _, rowJ_same (by decide) hJ, rfl⟩
            · refine owes_plainG rfl fun dn a W γ hT hdn hdp hJ hf hd => ?_
              obtain ⟨v4, e4, rfl⟩ := hd 4 rfl
              obtain ⟨v8, e8, rfl⟩ := hd 8 rfl
              exact step_val (w' := W) (by simp only [execOp]; go_simp) ⟨γ, anyT_refl _ _, rowJ_same (by decide) hJ, rfl⟩
            · refine owes_plainG rfl fun dn a W γ hT hdn hdp hJ hf hd => ?_
              have e9 := hf 9 rfl
              exact step_val (w' := W) (by simp only [execOp]; go_simp) ⟨γ, anyT_refl _ _, rowJ_same (by decide) hJ, rfl⟩
            · refine owes_plainG rfl fun dn a W γ hT hdn hdp hJ hf hd => ?_
              obtain ⟨v0, e0, rfl⟩ := hd 10 rfl
              refine step_call (w' := W) (f := 85) (args := #[.int .u32 (x15 : Int), .int .u64 (7 : Int)]) (by simp only [execOp]; go_simp) ?_
              refine (right_calls x15 7 W (by omega) (by omega)).mono ?_
              rintro e w' ⟨rfl, rfl⟩
              exact ⟨_, rfl, γ, anyT_refl _ _, rowJ_same (by decide) hJ, by rw [← P1.out]; rfl⟩
            · refine owes_plainG rfl fun dn a W γ hT hdn hdp hJ hf hd => ?_
              have e9 := hf 9 rfl
              exact step_val (w' := W) (by simp only [execOp]; go_simp) ⟨γ, anyT_refl _ _, rowJ_same (by decide) hJ, rfl⟩
            · refine owes_plainG rfl fun dn a W γ hT hdn hdp hJ hf hd => ?_
              obtain ⟨v0, e0, rfl⟩ := hd 12 rfl
              refine step_call (w' := W) (f := 85) (args := #[.int .u32 (x15 : Int), .int .u64 (18 : Int)]) (by simp only [execOp]; go_simp) ?_
              refine (right_calls x15 18 W (by omega) (by omega)).mono ?_
              rintro e w' ⟨rfl, rfl⟩
              exact ⟨_, rfl, γ, anyT_refl _ _, rowJ_same (by decide) hJ, by rw [← P2.out]; rfl⟩
            · refine owes_plainG rfl fun dn a W γ hT hdn hdp hJ hf hd => ?_
              obtain ⟨v11, e11, rfl⟩ := hd 11 rfl
              obtain ⟨v13, e13, rfl⟩ := hd 13 rfl
              exact step_val (w' := W) (by simp only [execOp]; go_simp) ⟨γ, anyT_refl _ _, rowJ_same (by decide) hJ, rfl⟩
            · refine owes_plainG rfl fun dn a W γ hT hdn hdp hJ hf hd => ?_
              have e9 := hf 9 rfl
              exact step_val (w' := W) (by simp only [execOp]; go_simp) ⟨γ, anyT_refl _ _, rowJ_same (by decide) hJ, rfl⟩
            · refine owes_plainG rfl fun dn a W γ hT hdn hdp hJ hf hd => ?_
              obtain ⟨v15, e15, rfl⟩ := hd 15 rfl
              exact step_val (w' := W) (by simp only [execOp]; go_simp) ⟨γ, anyT_refl _ _, rowJ_same (by decide) hJ, rfl⟩
            · refine owes_plainG rfl fun dn a W γ hT hdn hdp hJ hf hd => ?_
              obtain ⟨v14, e14, rfl⟩ := hd 14 rfl
              obtain ⟨v16, e16, rfl⟩ := hd 16 rfl
              exact step_val (w' := W) (by simp only [execOp]; go_simp) ⟨γ, anyT_refl _ _, rowJ_same (by decide) hJ, rfl⟩
            · refine owes_plainG rfl fun dn a W γ hT hdn hdp hJ hf hd => ?_
              obtain ⟨v9, e9, rfl⟩ := hd 9 rfl
              obtain ⟨v17, e17, rfl⟩ := hd 17 rfl
              exact step_val (w' := W) (by simp only [execOp]; go_simp) ⟨γ, anyT_refl _ _, rowJ_same (by decide) hJ, rfl⟩
            · refine owes_plainG rfl fun dn a W γ hT hdn hdp hJ hf hd => ?_
              have e10 := hf 10 rfl
              exact step_val (w' := W) (by simp only [execOp]; go_simp) ⟨γ, anyT_refl _ _, rowJ_same (by decide) hJ, rfl⟩
            · refine owes_plainG rfl fun dn a W γ hT hdn hdp hJ hf hd => ?_
              obtain ⟨v0, e0, rfl⟩ := hd 19 rfl
              refine step_call (w' := W) (f := 85) (args := #[.int .u32 (x2 : Int), .int .u64 (17 : Int)]) (by simp only [execOp]; go_simp) ?_
              refine (right_calls x2 17 W (by omega) (by omega)).mono ?_
              rintro e w' ⟨rfl, rfl⟩
              exact ⟨_, rfl, γ, anyT_refl _ _, rowJ_same (by decide) hJ, by rw [← P3.out]; rfl⟩
            · refine owes_plainG rfl fun dn a W γ hT hdn hdp hJ hf hd => ?_
              have e10 := hf 10 rfl
              exact step_val (w' := W) (by simp only [execOp]; go_simp) ⟨γ, anyT_refl _ _, rowJ_same (by decide) hJ, rfl⟩
            · refine owes_plainG rfl fun dn a W γ hT hdn hdp hJ hf hd => ?_
              obtain ⟨v0, e0, rfl⟩ := hd 21 rfl
              refine step_call (w' := W) (f := 85) (args := #[.int .u32 (x2 : Int), .int .u64 (19 : Int)]) (by simp only [execOp]; go_simp) ?_
              refine (right_calls x2 19 W (by omega) (by omega)).mono ?_
              rintro e w' ⟨rfl, rfl⟩
              exact ⟨_, rfl, γ, anyT_refl _ _, rowJ_same (by decide) hJ, by rw [← P4.out]; rfl⟩
            · refine owes_plainG rfl fun dn a W γ hT hdn hdp hJ hf hd => ?_
              obtain ⟨v20, e20, rfl⟩ := hd 20 rfl
              obtain ⟨v22, e22, rfl⟩ := hd 22 rfl
              exact step_val (w' := W) (by simp only [execOp]; go_simp) ⟨γ, anyT_refl _ _, rowJ_same (by decide) hJ, rfl⟩
            · refine owes_plainG rfl fun dn a W γ hT hdn hdp hJ hf hd => ?_
              have e10 := hf 10 rfl
              exact step_val (w' := W) (by simp only [execOp]; go_simp) ⟨γ, anyT_refl _ _, rowJ_same (by decide) hJ, rfl⟩
            · refine owes_plainG rfl fun dn a W γ hT hdn hdp hJ hf hd => ?_
              obtain ⟨v24, e24, rfl⟩ := hd 24 rfl
              exact step_val (w' := W) (by simp only [execOp]; go_simp) ⟨γ, anyT_refl _ _, rowJ_same (by decide) hJ, rfl⟩
            · refine owes_plainG rfl fun dn a W γ hT hdn hdp hJ hf hd => ?_
              obtain ⟨v23, e23, rfl⟩ := hd 23 rfl
              obtain ⟨v25, e25, rfl⟩ := hd 25 rfl
              exact step_val (w' := W) (by simp only [execOp]; go_simp) ⟨γ, anyT_refl _ _, rowJ_same (by decide) hJ, rfl⟩
            · refine owes_plainG rfl fun dn a W γ hT hdn hdp hJ hf hd => ?_
              obtain ⟨v18, e18, rfl⟩ := hd 18 rfl
              obtain ⟨v26, e26, rfl⟩ := hd 26 rfl
              exact step_val (w' := W) (by simp only [execOp]; go_simp) ⟨γ, anyT_refl _ _, rowJ_same (by decide) hJ, rfl⟩
            · refine owes_plainG rfl fun dn a W γ hT hdn hdp hJ hf hd => ?_
              have e4 := hf 4 rfl
              obtain ⟨v0, e0, rfl⟩ := hd 0 rfl
              exact step_val (w' := W) (by simp only [execOp]; go_simp) ⟨γ, anyT_refl _ _, rowJ_same (by decide) hJ, rfl⟩
            · refine owes_plainG rfl fun dn a W γ hT hdn hdp hJ hf hd => ?_
              obtain ⟨v27, e27, rfl⟩ := hd 27 rfl
              obtain ⟨v28, e28, rfl⟩ := hd 28 rfl
              have hB := hJ.2
              rw [hdn] at hB
              simp only [Bool.false_eq_true, if_false] at hB
              have hcw := (hB.cell n).trans (ua_get _ n (by rw [midW_length _ _ _ hlt]; exact hlt))
              have hfz := hB.frozen n
              have hset := hB.set_ n (.int .u32 (y : Int))
              rw [ua_set, midW_set] at hset
              exact step_skip (w' := W.setCell ⟨w.heap.size + 1, n, none⟩ (.int .u32 (y : Int))) (by simp only [execOp]; go_simp) ⟨γ, trivial, ⟨hJ.1.set1 rfl _, by simp only [did, if_true]; exact hset⟩, trivial⟩
          · rintro vs W γ _ ⟨hF, hB⟩
            simp only [laid, Nat.reduceAdd]
            have hbel2 : Below w.heap.size w W := below_fr hbel hF (Nat.le_refl _) fun k hk h => by omega
            have HB2 := Lib.hid hB
            have hwl : wl b (n + 1) = wl b n ++ [y] := by show wl b n ++ [_] = _; rw [← HNX.out, ← HY.out]
            have HWL := Lib.hid hwl
            clear hB hF hc15 hc2 HA k1 k2 k3 k4 hyi hw32 hw16 hw7 hi16 hi7 hj16 hj7 hq16 hq7 hwl
            go_wp2_with fail
            go_roundw
            case rel =>
              refine ⟨n + 1, by omega, by omega, by go_num, fun h => ?_, fun h => ?_, hbel2⟩
              · rw [← midW_next b n (by omega) y HWL.out]; exact HB2.out
              · have h63 : n = 63 := by omega
                subst h63
                have e : midW b 63 y = wl b 64 := by rw [show wl b 64 = wl b 63 ++ [y] from HWL.out]; rfl
                rw [← e]; exact HB2.out
            case measure => simp [intOf]; omega
        · have h64 : n = 64 := by omega
          subst h64
          have hA := Lib.hid (hW64.out rfl)
          clear hW hW64 hlt hn0 hn
          have hgl := (HG.out.belowB hbel fun k hk => by subst hk; exact HG0)
          have hss := HS.out.below hbel
          have HGL := Lib.hid hgl
          have HSS := Lib.hid hss
          clear hgl hss
          have hrg := glb_range (HGL.out.alloc (.cells (ua s.l) 81))
          have HRG := Lib.hid hrg
          clear hrg
          go_wp2_with (first
            | (refine wpList_load_row rfl 81 _ rfl gs rfl 81 (ua s.l) (0, 0) _ HSS.out Tryd.underlying81 rfl (by kernel_rfl) ?_)
            | (refine wpList_store_row rfl 81 _ _ rfl wr.heap.size (ua s.l) rfl rfl 81 _ (heap_alloc_new wr _) (by kernel_rfl) rfl (ua_one _) ?_; rw [World.setRow_alloc_new])
            | (refine wpList_load_mid rfl 91 _ rfl 0 0 rfl (uw rkL) _ HRG.out Tryd.underlying91 rfl (by kernel_rfl) ?_))
          have hv0 : Blk (wr.alloc (.cells (ua s.l) 81)) wr.heap.size 81 (ua (rnds s b 0).l) := Blk.new _ _ _
          have ha0 := Lib.hid (hA.out.alloc (.cells (ua s.l) 81))
          have hb0 := hbel.alloc hbel.size (.cells (ua s.l) 81)
          have hsz := hbel.size
          have hg3 : w.heap.size + 1 < wr.heap.size := hA.out.lt
          obtain ⟨g3, hg3e⟩ : ∃ g, g = wr.heap.size := ⟨_, rfl⟩
          rw [← hg3e] at hv0 hsz hg3
          rw [← hg3e]
          have HV0 := Lib.hid hv0
          have HG3 := Lib.hid hg3e
          clear hv0 hg3e
          generalize hrk : (uw rkL).toArray = RK
          have HRK := fun _ : Unit => hrk
          clear hrk
          go_loopw [92] (fun i wr => ∃ n : Nat, n ≤ 64 ∧ i = .int .i64 n ∧ Hid (Blk wr g3 81 (ua (rnds s b n).l)) ∧ Hid (Blk wr (w.heap.size + 1) 91 (ua (wl b 64))) ∧ Below w.heap.size w wr) (fun i _ => 64 - (intOf i).toNat)
          case atStart => exact ⟨0, by omega, rfl, HV0, ha0, hb0⟩
          case round =>
            clear HV0 ha0 hb0 hA HGL HSS HRG hbel HG3
            obtain ⟨n, hn, rfl, hV, hA, hbel⟩ := hrel
            by_cases hlt : n < 64
            · have hvok := rnds_ok hs b n (by omega)
              have hrs := rnds_succ s b n hlt
              obtain ⟨kk, hkk⟩ : ∃ x, x = rkL.getD n 0 := ⟨_, rfl⟩
              obtain ⟨wi, hwi⟩ : ∃ x, x = (wl b 64).getD n 0 := ⟨_, rfl⟩
              have hwl := wl_lt b n 64
              have hix : RK[n]? = some (.int .u32 (kk : Int)) := by rw [hkk, ← HRK ()]; exact ua_get rkL n hlt
              have hwc := (hA.out.cell n).trans (ua_get (wl b 64) n (by rw [wl_length]; exact hlt))
              rw [← hwi] at hwc hwl
              rw [← hkk, ← hwi] at hrs
              have hRKs : RK.size = 64 := by rw [← HRK ()]; rfl
              obtain ⟨v, hv⟩ : ∃ v, v = rnds s b n := ⟨_, rfl⟩
              rw [← hv] at hvok hrs
              have hV' := hV.out
              rw [← hv] at hV'
              have HV := Lib.hid hV'
              obtain ⟨va, vb, vc, vd, ve, vf, vg, vh⟩ := v
              obtain ⟨o1, o2, o3, o4, o5, o6, o7, o8⟩ := hvok
              simp only at o1 o2 o3 o4 o5 o6 o7 o8
              have c0 : wr.cell? ⟨g3, 0, none⟩ = some (.int .u32 (va : Int)) := HV.out.cell 0
              have c1 : wr.cell? ⟨g3, 1, none⟩ = some (.int .u32 (vb : Int)) := HV.out.cell 1
              have c2 : wr.cell? ⟨g3, 2, none⟩ = some (.int .u32 (vc : Int)) := HV.out.cell 2
              have c3 : wr.cell? ⟨g3, 3, none⟩ = some (.int .u32 (vd : Int)) := HV.out.cell 3
              have c4 : wr.cell? ⟨g3, 4, none⟩ = some (.int .u32 (ve : Int)) := HV.out.cell 4
              have c5 : wr.cell? ⟨g3, 5, none⟩ = some (.int .u32 (vf : Int)) := HV.out.cell 5
              have c6 : wr.cell? ⟨g3, 6, none⟩ = some (.int .u32 (vg : Int)) := HV.out.cell 6
              have c7 : wr.cell? ⟨g3, 7, none⟩ = some (.int .u32 (vh : Int)) := HV.out.cell 7
              have HRS := fun _ : Unit => hrs
              have HVE := fun _ : Unit => hv
              have HKK := fun _ : Unit => hkk
              have HWI := fun _ : Unit => hwi
              clear hV hV' hrs hv hkk hwi
              have hpk := pick64 wr RK n _ hlt hix
              have hw32 : ∀ x : Int, IntKind.u32.wrap x = x % 4294967296 := fun x => by simp [IntKind.wrap, IntKind.signed, IntKind.bits]
              go_wp2_with fail
              go_quiet (fail)
              go_wp2_with fail
              obtain ⟨p1, hp1⟩ : ∃ p, p = rotr ve 6 := ⟨_, rfl⟩
              obtain ⟨p2, hp2⟩ : ∃ p, p = rotr ve 11 := ⟨_, rfl⟩
              obtain ⟨p3, hp3⟩ : ∃ p, p = rotr ve 25 := ⟨_, rfl⟩
              have r1 := rotr_lt ve 6 o5
              have r2 := rotr_lt ve 11 o5
              have r3 := rotr_lt ve 25 o5
              obtain ⟨q1, hq1⟩ : ∃ q, q = rotr ve 6 ^^^ rotr ve 11 := ⟨_, rfl⟩
              obtain ⟨q2, hq2⟩ : ∃ q, q = bs1 ve := ⟨_, rfl⟩
              obtain ⟨q3, hq3⟩ : ∃ q, q = ve &&& vf := ⟨_, rfl⟩
              obtain ⟨q4, hq4⟩ : ∃ q, q = 4294967295 - ve := ⟨_, rfl⟩
              obtain ⟨q5, hq5⟩ : ∃ q, q = (4294967295 - ve) &&& vg := ⟨_, rfl⟩
              obtain ⟨q6, hq6⟩ : ∃ q, q = chs ve vf vg := ⟨_, rfl⟩
              obtain ⟨t, ht⟩ : ∃ t, t = (vh + q2 + q6 + kk + wi) % 4294967296 := ⟨_, rfl⟩
              have k1 : bits .xor .u32 (p1 : Int) (p2 : Int) = (q1 : Int) := by rw [hp1, hp2, hq1]; exact u32_xor_nat _ _ r1 r2
              have k2 : bits .xor .u32 (q1 : Int) (p3 : Int) = (q2 : Int) := by rw [hq1, hp3, hq2]; exact u32_xor_nat _ _ (Nat.xor_lt_two_pow (n := 32) r1 r2) r3
              have k3 : bits .and .u32 (ve : Int) (vf : Int) = (q3 : Int) := by rw [hq3]; exact u32_and_nat _ _ o5 o6
              have k4 : bits .xor .u32 4294967295 (ve : Int) = (q4 : Int) := by rw [hq4]; exact not_u32 ve o5
              have k4' : bits .xor .u32 (if IntKind.u32.signed = true then -1 else IntKind.u32.max) (ve : Int) = (q4 : Int) := k4
              have k5 : bits .and .u32 (q4 : Int) (vg : Int) = (q5 : Int) := by rw [hq4, hq5]; exact u32_and_nat _ _ (by omega) o7
              have k6 : bits .xor .u32 (q3 : Int) (q5 : Int) = (q6 : Int) := by rw [hq3, hq5, hq6]; exact u32_xor_nat _ _ (Nat.lt_of_le_of_lt Nat.and_le_left o5) (Nat.lt_of_le_of_lt Nat.and_le_right o7)
              have k7 : ((vh : Int) + (q2 : Int) + (q6 : Int) + (kk : Int) + (wi : Int)) % 4294967296 = (t : Int) := by rw [ht]; omega
              have P1 := Lib.hid hp1
              have P2 := Lib.hid hp2
              have P3 := Lib.hid hp3
              have Q2 := Lib.hid hq2
              have Q6 := Lib.hid hq6
              have HT := Lib.hid ht
              clear hp1 hp2 hp3 r1 r2 r3 hq1 hq2 hq3 hq4 hq5 hq6 ht
              have hltV := HV.out.lt
              have hltA := hA.out.lt
              refine region_toG (T := anyT) (J := stayJ wr) anyT_trans anyT_refl () (fun vs W γ => Fr (fun _ => False) wr W ∧ vs 28 = .int .u32 (t : Int)) (by kernel_rfl) (by kernel_rfl) (by kernel_rfl) ((Fr.refl _ _).drewN _).drew ?_ ?_
              · refine ⟨prOfG [.is (.pointer (some ⟨g3, 7, none⟩)), .isU vh, .isU ve, .isU p1, .isU ve, .isU p2, .isU q1, .isU ve, .isU p3, .isU q2, .is (.int .u32 (((vh : Int) + (q2 : Int)) % 4294967296)), .isU ve, .is (.pointer (some ⟨g3, 5, none⟩)), .isU vf, .isU q3, .isU ve, .isU q4, .is (.pointer (some ⟨g3, 6, none⟩)), .isU vg, .isU q5, .isU q6,
                    .is (.int .u32 (((vh : Int) + (q2 : Int) + (q6 : Int)) % 4294967296)), .isU kk, .is (.int .u32 (((vh : Int) + (q2 : Int) + (q6 : Int) + (kk : Int)) % 4294967296)), .is (.int .i64 (n : Int)), .is (.pointer (some ⟨w.heap.size + 1, n, none⟩)), .isU wi, .isU t, .isU t], prOfG_st _, no_none (by kernel_rfl), ⟨?_, ?_, ?_, ?_, ?_, ?_, ?_, ?_, ?_, ?_, ?_, ?_, ?_, ?_, ?_, ?_, ?_, ?_, ?_, ?_, ?_, ?_, ?_, ?_, ?_, ?_, ?_, ?_, ?_, trivial⟩, fun vs W γ _ hJ h => ⟨hJ, h 28 rfl⟩⟩
                · refine owes_plainG rfl fun dn a W γ hT hdn hdp hJ hf hd => ?_
                  have e11 := hf 11 rfl
                  exact step_val (w' := W) (by simp only [execOp]; go_simp) ⟨γ, anyT_refl _ _, stayJ_same (by decide) hJ, rfl⟩
                · refine owes_plainG rfl fun dn a W γ hT hdn hdp hJ hf hd => ?_
                  obtain ⟨v0, e0, rfl⟩ := hd 0 rfl
                  have hcw := (Fr.cell hJ hltV (fun h => h)).trans c7
                  exact step_val (w' := W) (by simp only [execOp]; go_simp) ⟨γ, anyT_refl _ _, hJ, rfl⟩
                · refine owes_plainG rfl fun dn a W γ hT hdn hdp hJ hf hd => ?_
                  have e17 := hf 17 rfl
                  exact step_val (w' := W) (by simp only [execOp]; go_simp) ⟨γ, anyT_refl _ _, stayJ_same (by decide) hJ, rfl⟩
                · refine owes_plainG rfl fun dn a W γ hT hdn hdp hJ hf hd => ?_
                  obtain ⟨v0, e0, rfl⟩ := hd 2 rfl
                  refine step_call (w' := W) (f := 85) (args := #[.int .u32 (ve : Int), .int .u64 (6 : Int)]) (by simp only [execOp]; go_simp) ?_
                  refine (right_calls ve 6 W o5 (by omega)).mono ?_
                  rintro e w' ⟨rfl, rfl⟩
                  exact ⟨_, rfl, γ, anyT_refl _ _, hJ, by rw [← P1.out]; rfl⟩
                · refine owes_plainG rfl fun dn a W γ hT hdn hdp hJ hf hd => ?_
                  have e17 := hf 17 rfl
                  exact step_val (w' := W) (by simp only [execOp]; go_simp) ⟨γ, anyT_refl _ _, stayJ_same (by decide) hJ, rfl⟩
                · refine owes_plainG rfl fun dn a W γ hT hdn hdp hJ hf hd => ?_
                  obtain ⟨v0, e0, rfl⟩ := hd 4 rfl
                  refine step_call (w' := W) (f := 85) (args := #[.int .u32 (ve : Int), .int .u64 (11 : Int)]) (by simp only [execOp]; go_simp) ?_
                  refine (right_calls ve 11 W o5 (by omega)).mono ?_
                  rintro e w' ⟨rfl, rfl⟩
                  exact ⟨_, rfl, γ, anyT_refl _ _, hJ, by rw [← P2.out]; rfl⟩
                · refine owes_plainG rfl fun dn a W γ hT hdn hdp hJ hf hd => ?_
                  obtain ⟨v3, e3, rfl⟩ := hd 3 rfl
                  obtain ⟨v5, e5, rfl⟩ := hd 5 rfl
                  exact step_val (w' := W) (by simp only [execOp]; go_simp) ⟨γ, anyT_refl _ _, stayJ_same (by decide) hJ, rfl⟩
                · refine owes_plainG rfl fun dn a W γ hT hdn hdp hJ hf hd => ?_
                  have e17 := hf 17 rfl
                  exact step_val (w' := W) (by simp only [execOp]; go_simp) ⟨γ, anyT_refl _ _, stayJ_same (by decide) hJ, rfl⟩
                · refine owes_plainG rfl fun dn a W γ hT hdn hdp hJ hf hd => ?_
                  obtain ⟨v0, e0, rfl⟩ := hd 7 rfl
                  refine step_call (w' := W) (f := 85) (args := #[.int .u32 (ve : Int), .int .u64 (25 : Int)]) (by simp only [execOp]; go_simp) ?_
                  refine (right_calls ve 25 W o5 (by omega)).mono ?_
                  rintro e w' ⟨rfl, rfl⟩
                  exact ⟨_, rfl, γ, anyT_refl _ _, hJ, by rw [← P3.out]; rfl⟩
                · refine owes_plainG rfl fun dn a W γ hT hdn hdp hJ hf hd => ?_
                  obtain ⟨v6, e6, rfl⟩ := hd 6 rfl
                  obtain ⟨v8, e8, rfl⟩ := hd 8 rfl
                  exact step_val (w' := W) (by simp only [execOp]; go_simp) ⟨γ, anyT_refl _ _, stayJ_same (by decide) hJ, rfl⟩
                · refine owes_plainG rfl fun dn a W γ hT hdn hdp hJ hf hd => ?_
                  obtain ⟨v1, e1, rfl⟩ := hd 1 rfl
                  obtain ⟨v9, e9, rfl⟩ := hd 9 rfl
                  exact step_val (w' := W) (by simp only [execOp]; go_simp) ⟨γ, anyT_refl _ _, stayJ_same (by decide) hJ, rfl⟩
                · refine owes_plainG rfl fun dn a W γ hT hdn hdp hJ hf hd => ?_
                  have e17 := hf 17 rfl
                  exact step_val (w' := W) (by simp only [execOp]; go_simp) ⟨γ, anyT_refl _ _, stayJ_same (by decide) hJ, rfl⟩
                · refine owes_plainG rfl fun dn a W γ hT hdn hdp hJ hf hd => ?_
                  have e11 := hf 11 rfl
                  exact step_val (w' := W) (by simp only [execOp]; go_simp) ⟨γ, anyT_refl _ _, stayJ_same (by decide) hJ, rfl⟩
                · refine owes_plainG rfl fun dn a W γ hT hdn hdp hJ hf hd => ?_
                  obtain ⟨v0, e0, rfl⟩ := hd 12 rfl
                  have hcw := (Fr.cell hJ hltV (fun h => h)).trans c5
                  exact step_val (w' := W) (by simp only [execOp]; go_simp) ⟨γ, anyT_refl _ _, hJ, rfl⟩
                · refine owes_plainG rfl fun dn a W γ hT hdn hdp hJ hf hd => ?_
                  obtain ⟨v11, e11, rfl⟩ := hd 11 rfl
                  obtain ⟨v13, e13, rfl⟩ := hd 13 rfl
                  exact step_val (w' := W) (by simp only [execOp]; go_simp) ⟨γ, anyT_refl _ _, stayJ_same (by decide) hJ, rfl⟩
                · refine owes_plainG rfl fun dn a W γ hT hdn hdp hJ hf hd => ?_
                  have e17 := hf 17 rfl
                  exact step_val (w' := W) (by simp only [execOp]; go_simp) ⟨γ, anyT_refl _ _, stayJ_same (by decide) hJ, rfl⟩
                · refine owes_plainG rfl fun dn a W γ hT hdn hdp hJ hf hd => ?_
                  obtain ⟨v15, e15, rfl⟩ := hd 15 rfl
                  exact step_val (w' := W) (by simp only [execOp]; go_simp) ⟨γ, anyT_refl _ _, stayJ_same (by decide) hJ, rfl⟩
                · refine owes_plainG rfl fun dn a W γ hT hdn hdp hJ hf hd => ?_
                  have e11 := hf 11 rfl
                  exact step_val (w' := W) (by simp only [execOp]; go_simp) ⟨γ, anyT_refl _ _, stayJ_same (by decide) hJ, rfl⟩
                · refine owes_plainG rfl fun dn a W γ hT hdn hdp hJ hf hd => ?_
                  obtain ⟨v0, e0, rfl⟩ := hd 17 rfl
                  have hcw := (Fr.cell hJ hltV (fun h => h)).trans c6
                  exact step_val (w' := W) (by simp only [execOp]; go_simp) ⟨γ, anyT_refl _ _, hJ, rfl⟩
                · refine owes_plainG rfl fun dn a W γ hT hdn hdp hJ hf hd => ?_
                  obtain ⟨v16, e16, rfl⟩ := hd 16 rfl
                  obtain ⟨v18, e18, rfl⟩ := hd 18 rfl
                  exact step_val (w' := W) (by simp only [execOp]; go_simp) ⟨γ, anyT_refl _ _, stayJ_same (by decide) hJ, rfl⟩
                · refine owes_plainG rfl fun dn a W γ hT hdn hdp hJ hf hd => ?_
                  obtain ⟨v14, e14, rfl⟩ := hd 14 rfl
                  obtain ⟨v19, e19, rfl⟩ := hd 19 rfl
                  exact step_val (w' := W) (by simp only [execOp]; go_simp) ⟨γ, anyT_refl _ _, stayJ_same (by decide) hJ, rfl⟩
                · refine owes_plainG rfl fun dn a W γ hT hdn hdp hJ hf hd => ?_
                  obtain ⟨v10, e10, rfl⟩ := hd 10 rfl
                  obtain ⟨v20, e20, rfl⟩ := hd 20 rfl
                  exact step_val (w' := W) (by simp only [execOp]; go_simp) ⟨γ, anyT_refl _ _, stayJ_same (by decide) hJ, rfl⟩
                · refine owes_plainG rfl fun dn a W γ hT hdn hdp hJ hf hd => ?_
                  have e13 := hf 13 rfl
                  exact step_val (w' := W) (by simp only [execOp]; go_simp) ⟨γ, anyT_refl _ _, stayJ_same (by decide) hJ, rfl⟩
                · refine owes_plainG rfl fun dn a W γ hT hdn hdp hJ hf hd => ?_
                  obtain ⟨v21, e21, rfl⟩ := hd 21 rfl
                  obtain ⟨v22, e22, rfl⟩ := hd 22 rfl
                  exact step_val (w' := W) (by simp only [execOp]; go_simp) ⟨γ, anyT_refl _ _, stayJ_same (by decide) hJ, rfl⟩
                · refine owes_plainG rfl fun dn a W γ hT hdn hdp hJ hf hd => ?_
                  have e12 := hf 12 rfl
                  exact step_val (w' := W) (by simp only [execOp]; go_simp) ⟨γ, anyT_refl _ _, stayJ_same (by decide) hJ, rfl⟩
                · refine owes_plainG rfl fun dn a W γ hT hdn hdp hJ hf hd => ?_
                  have e4 := hf 4 rfl
                  obtain ⟨v24, e24, rfl⟩ := hd 24 rfl
                  exact step_val (w' := W) (by simp only [execOp]; go_simp) ⟨γ, anyT_refl _ _, stayJ_same (by decide) hJ, rfl⟩
                · refine owes_plainG rfl fun dn a W γ hT hdn hdp hJ hf hd => ?_
                  obtain ⟨v0, e0, rfl⟩ := hd 25 rfl
                  have hcw := (Fr.cell hJ hltA (fun h => h)).trans hwc
                  exact step_val (w' := W) (by simp only [execOp]; go_simp) ⟨γ, anyT_refl _ _, hJ, rfl⟩
                · refine owes_plainG rfl fun dn a W γ hT hdn hdp hJ hf hd => ?_
                  obtain ⟨v23, e23, rfl⟩ := hd 23 rfl
                  obtain ⟨v26, e26, rfl⟩ := hd 26 rfl
                  exact step_val (w' := W) (by simp only [execOp]; go_simp) ⟨γ, anyT_refl _ _, stayJ_same (by decide) hJ, rfl⟩
                · refine owes_plainG rfl fun dn a W γ hT hdn hdp hJ hf hd => ?_
                  obtain ⟨v27, e27, rfl⟩ := hd 27 rfl
                  exact step_val (w' := W) (by simp only [execOp]; go_simp) ⟨γ, anyT_refl _ _, stayJ_same (by decide) hJ, rfl⟩
              · rintro vs W γ _ ⟨hF, h28⟩
                simp only [laid, Nat.reduceAdd, h28]
                have d3 := (hF.cell (p := ⟨g3, 3, none⟩) hltV (fun h => h)).trans c3
                have d5 := (hF.cell (p := ⟨g3, 5, none⟩) hltV (fun h => h)).trans c5
                have d6 := (hF.cell (p := ⟨g3, 6, none⟩) hltV (fun h => h)).trans c6
                have HV2 := Lib.hid (HV.out.keep hF (fun h => h))
                have HA2 := Lib.hid (hA.out.keep hF (fun h => h))
                have hbel2 : Below w.heap.size w W := below_fr hbel hF (Nat.le_refl _) fun k _ h => h
                clear c0 c1 c2 c3 c4 c5 c6 c7 hwc hpk hix h28 k1 k2 k3 k4 k4' k5 k6 k7 HV hA
                have r1 := rotr_lt va 2 o1
                have r2 := rotr_lt va 13 o1
                have r3 := rotr_lt va 22 o1
                obtain ⟨m1, hm1⟩ : ∃ q, q = rotr va 2 ^^^ rotr va 13 := ⟨_, rfl⟩
                obtain ⟨m2, hm2⟩ : ∃ q, q = bs0 va := ⟨_, rfl⟩
                obtain ⟨m3, hm3⟩ : ∃ q, q = va &&& vb := ⟨_, rfl⟩
                obtain ⟨m4, hm4⟩ : ∃ q, q = va &&& vc := ⟨_, rfl⟩
                obtain ⟨m5, hm5⟩ : ∃ q, q = (va &&& vb) ^^^ (va &&& vc) := ⟨_, rfl⟩
                obtain ⟨m6, hm6⟩ : ∃ q, q = vb &&& vc := ⟨_, rfl⟩
                obtain ⟨m7, hm7⟩ : ∃ q, q = mjr va vb vc := ⟨_, rfl⟩
                have l3 : m3 < 4294967296 := by rw [hm3]; exact Nat.lt_of_le_of_lt Nat.and_le_left o1
                have l4 : m4 < 4294967296 := by rw [hm4]; exact Nat.lt_of_le_of_lt Nat.and_le_left o1
                have l6 : m6 < 4294967296 := by rw [hm6]; exact Nat.lt_of_le_of_lt Nat.and_le_left o2
                have k1 : bits .xor .u32 ((rotr va 2 : Nat) : Int) ((rotr va 13 : Nat) : Int) = (m1 : Int) := by rw [hm1]; exact u32_xor_nat _ _ r1 r2
                have k2 : bits .xor .u32 (m1 : Int) ((rotr va 22 : Nat) : Int) = (m2 : Int) := by rw [hm1, hm2]; exact u32_xor_nat _ _ (Nat.xor_lt_two_pow (n := 32) r1 r2) r3
                have k3 : bits .and .u32 (va : Int) (vb : Int) = (m3 : Int) := by rw [hm3]; exact u32_and_nat _ _ o1 o2
                have k4 : bits .and .u32 (va : Int) (vc : Int) = (m4 : Int) := by rw [hm4]; exact u32_and_nat _ _ o1 o3
                have k5 : bits .xor .u32 (m3 : Int) (m4 : Int) = (m5 : Int) := by rw [hm5, ← hm3, ← hm4]; exact u32_xor_nat _ _ l3 l4
                have k6 : bits .and .u32 (vb : Int) (vc : Int) = (m6 : Int) := by rw [hm6]; exact u32_and_nat _ _ o2 o3
                have k7 : bits .xor .u32 (m5 : Int) (m6 : Int) = (m7 : Int) := by rw [hm7, hm5, hm6]; exact u32_xor_nat _ _ (by rw [← hm3, ← hm4]; exact Nat.xor_lt_two_pow (n := 32) l3 l4) (by rw [← hm6]; exact l6)
                have M2 := Lib.hid hm2
                have M7 := Lib.hid hm7
                clear hm1 hm2 hm3 hm4 hm5 hm6 hm7 l3 l4 l6 r1 r2 r3
                go_wp2_with fail
                refine (right_calls va 2 W o1 (by omega)).mono ?_
                rintro e w' ⟨rfl, rfl⟩
                go_wp2_with fail
                refine (right_calls va 13 W o1 (by omega)).mono ?_
                rintro e w' ⟨rfl, rfl⟩
                go_wp2_with fail
                refine (right_calls va 22 W o1 (by omega)).mono ?_
                rintro e w' ⟨rfl, rfl⟩
                have hr : rnd ⟨va, vb, vc, vd, ve, vf, vg, vh⟩ kk wi = ⟨(t + (m2 + m7)) % 4294967296, va, vb, vc, (vd + t) % 4294967296, ve, vf, vg⟩ := by rw [M2.out, M7.out, HT.out, Q2.out, Q6.out]; rfl
                have hcs : (#[.int .u32 (((t : Int) + ((m2 : Int) + (m7 : Int))) % 4294967296), .int .u32 (va : Int), .int .u32 (vb : Int), .int .u32 (vc : Int), .int .u32 (((vd : Int) + (t : Int)) % 4294967296), .int .u32 (ve : Int), .int .u32 (vf : Int), .int .u32 (vg : Int)] : Array Value) = ua (rnds s b (n + 1)).l := by
                  rw [HRS (), hr, show ((t : Int) + ((m2 : Int) + (m7 : Int))) % 4294967296 = (((t + (m2 + m7)) % 4294967296 : Nat) : Int) from by omega, show ((vd : Int) + (t : Int)) % 4294967296 = (((vd + t) % 4294967296 : Nat) : Int) from by omega]
                  rfl
                have HV3 := HV2.out.setRow #[.int .u32 (((t : Int) + ((m2 : Int) + (m7 : Int))) % 4294967296), .int .u32 (va : Int), .int .u32 (vb : Int), .int .u32 (vc : Int), .int .u32 (((vd : Int) + (t : Int)) % 4294967296), .int .u32 (ve : Int), .int .u32 (vf : Int), .int .u32 (vg : Int)]
                rw [hcs] at HV3
                have HCS := fun _ : Unit => hcs
                have hbel3 := below_setRow_own hbel2 hsz (ua (rnds s b (n + 1)).l)
                have HA3 := Lib.hid (HA2.out.setRow_far (k := g3) (by omega) (ua (rnds s b (n + 1)).l))
                have HV4 := Lib.hid HV3
                clear hcs hr HV3
                go_wp2_with (refine wpList_store_row rfl 81 _ _ rfl g3 #[.int .u32 (((t : Int) + ((m2 : Int) + (m7 : Int))) % 4294967296), .int .u32 (va : Int), .int .u32 (vb : Int), .int .u32 (vc : Int), .int .u32 (((vd : Int) + (t : Int)) % 4294967296), .int .u32 (ve : Int), .int .u32 (vf : Int), .int .u32 (vg : Int)] rfl rfl 81 _ HV2.out (by kernel_rfl) rfl (by rw [HCS ()]; exact ua_one _) ?_; rw [HCS ()])
                go_roundw
                case rel => exact ⟨n + 1, by omega, by go_num, HV4, HA3, hbel3⟩
                case measure => simp [intOf]; omega
            · have h64' : n = 64 := by omega
              subst h64'
              clear hlt hn
              have hfin : rnds s b 64 = rnds s b 64 := rfl
              obtain ⟨v, hv⟩ : ∃ v, v = rnds s b 64 := ⟨_, rfl⟩
              have hvok := rnds_ok hs b 64 (Nat.le_refl _)
              have hV' := hV.out
              rw [← hv] at hV' hvok
              have HVE := fun _ : Unit => hv
              have HV := Lib.hid hV'
              have HS2 := Lib.hid (HS.out.below hbel)
              have hltS := HS.out.lt
              clear hV hv hV' hfin hA
              go_wp2_with (refine wpList_load_row rfl 81 _ rfl g3 rfl 81 (ua v.l) (0, 0) _ HV.out Tryd.underlying81 rfl (by kernel_rfl) ?_)
              generalize hua : ua v.l = UV
              have HUA := fun _ : Unit => hua
              clear hua
              go_loopw [170] (fun i wr => ∃ n : Nat, n ≤ 8 ∧ i = .int .i64 n ∧ Hid (Blk wr gs 81 (ua (addL s v n))) ∧ Fr (fun k => k = gs) w wr) (fun i _ => 8 - (intOf i).toNat)
              case atStart => exact ⟨0, by omega, rfl, HS2.out, Fr.of_below hbel fun k h1 h2 => absurd h1 (Nat.not_lt.2 h2)⟩
              case round =>
                clear HS2 HV hbel
                obtain ⟨n, hn, rfl, hS, hfr⟩ := hrel
                by_cases hlt : n < 8
                · have hix : UV[n]? = some (.int .u32 ((v.l.getD n 0 : Nat) : Int)) := by rw [← HUA ()]; exact ua_get v.l n hlt
                  have hpk := pick8 wr UV n _ hlt hix
                  have hcell := (hS.out.cell n).trans (ua_get _ n (by rw [addL_length s v n (by omega)]; exact hlt))
                  rw [addL_get s v n hlt] at hcell
                  have hset := hS.out.set_ n (.int .u32 (((s.l.getD n 0 + v.l.getD n 0) % 4294967296 : Nat) : Int))
                  rw [ua_set, addL_set s v n hlt] at hset
                  have hfz := hS.out.frozen n
                  obtain ⟨x, hx⟩ : ∃ x, x = s.l.getD n 0 := ⟨_, rfl⟩
                  obtain ⟨y, hy⟩ : ∃ y, y = v.l.getD n 0 := ⟨_, rfl⟩
                  rw [← hx] at hcell hset
                  rw [← hy] at hset hpk
                  rw [show (((x + y) % 4294967296 : Nat) : Int) = ((x : Int) + (y : Int)) % 4294967296 from by omega] at hset
                  have HSET := Lib.hid hset
                  clear hset hx hy hix
                  go_wp2_with fail
                  go_region
                  go_wp2_with fail
                  go_roundw
                  case rel => exact ⟨n + 1, by omega, by go_num, HSET.out.drew, (hfr.set1 rfl _).drew⟩
                  case measure => simp [intOf]; omega
                · have h8 : n = 8 := by omega
                  subst h8
                  have hend : Hid (Blk wr gs 81 (ua (blkF s b).l)) := by
                    show Blk _ _ _ _
                    have e : addL s v 8 = (blkF s b).l := by rw [HVE ()]; rfl
                    rw [← e]
                    exact hS.out
                  clear hS
                  go_wp2
                  go_end0
                  exact ⟨rfl, hend.out, hfr⟩
end Go.Proofs.YtbhaekdfpfncnaaDoor
