/- hkdf.Mac: HMAC. -/
import Derived.Test.YtbhaekdfpfncnaaDoorHkD
import Derived.Test.YtbhaekdfpfncnaaDoorMac
import Derived.RegionTactic
namespace Go.Proofs.YtbhaekdfpfncnaaDoor
set_option linter.unusedVariables false
set_option linter.unusedSimpArgs false
open Go.RowKit

theorem glb_pos {w : World} (h : Glb w) : 0 < w.heap.size := by
  obtain ⟨ad, e, _, hc⟩ := h 0 _ rfl
  injection e with e
  subst e
  exact World.block_lt_of_cell? _ _ hc
theorem info_rows : (Tryd.prog.info? 25).map (fun i => (i.zero, i.size, i.bytes)) = some (some (.slice none 0 0), 1, 24) := by kernel_rfl

theorem z16 : (bc (List.replicate 16 0)).toArray = #[.int .u8 0, .int .u8 0, .int .u8 0, .int .u8 0, .int .u8 0, .int .u8 0, .int .u8 0, .int .u8 0, .int .u8 0, .int .u8 0, .int .u8 0, .int .u8 0, .int .u8 0, .int .u8 0, .int .u8 0, .int .u8 0] := by kernel_rfl
theorem z32 : (bc (List.replicate 32 0)).toArray = #[.int .u8 0, .int .u8 0, .int .u8 0, .int .u8 0, .int .u8 0, .int .u8 0, .int .u8 0, .int .u8 0, .int .u8 0, .int .u8 0, .int .u8 0, .int .u8 0, .int .u8 0, .int .u8 0, .int .u8 0, .int .u8 0, .int .u8 0, .int .u8 0, .int .u8 0, .int .u8 0, .int .u8 0, .int .u8 0, .int .u8 0, .int .u8 0, .int .u8 0, .int .u8 0, .int .u8 0, .int .u8 0, .int .u8 0, .int .u8 0, .int .u8 0, .int .u8 0] := by kernel_rfl
theorem z64 : (bc (List.replicate 64 0)).toArray = #[.int .u8 0, .int .u8 0, .int .u8 0, .int .u8 0, .int .u8 0, .int .u8 0, .int .u8 0, .int .u8 0, .int .u8 0, .int .u8 0, .int .u8 0, .int .u8 0, .int .u8 0, .int .u8 0, .int .u8 0, .int .u8 0, .int .u8 0, .int .u8 0, .int .u8 0, .int .u8 0, .int .u8 0, .int .u8 0, .int .u8 0, .int .u8 0, .int .u8 0, .int .u8 0, .int .u8 0, .int .u8 0, .int .u8 0, .int .u8 0, .int .u8 0, .int .u8 0, .int .u8 0, .int .u8 0, .int .u8 0, .int .u8 0, .int .u8 0, .int .u8 0, .int .u8 0, .int .u8 0, .int .u8 0, .int .u8 0, .int .u8 0, .int .u8 0, .int .u8 0, .int .u8 0, .int .u8 0, .int .u8 0, .int .u8 0, .int .u8 0, .int .u8 0, .int .u8 0, .int .u8 0, .int .u8 0, .int .u8 0, .int .u8 0, .int .u8 0, .int .u8 0, .int .u8 0, .int .u8 0, .int .u8 0, .int .u8 0, .int .u8 0, .int .u8 0] := by kernel_rfl
def Zs (n : Nat) : Array Value := (bc (List.replicate n 0)).toArray
theorem mk64 (w : World) : (Instr.makeSlice 25 (.int .i64 64) (.int .i64 64)).run Tryd.prog w = .ok (.slice (some ⟨w.heap.size, 0, none⟩) 64 64) (w.alloc (.cells (Zs 64) 5)) := by kernel_rfl
def two64 (w : World) : World := ((w.alloc (.cells (Zs 64) 5)).alloc (.cells (Zs 64) 5)).drew
theorem two64_has (w : World) : ∃ g1 g2, g1 = w.heap.size ∧ g2 = w.heap.size + 1 ∧ Blk (two64 w) g1 5 (Zs 64) ∧ Blk (two64 w) g2 5 (Zs 64) ∧ w.heap.size ≤ g1 ∧ w.heap.size ≤ g2 ∧ g1 ≠ g2 ∧ NewMem w (two64 w) :=
  ⟨_, _, rfl, rfl, (Blk.new _ _ _).alloc _, Blk.newAt _ _ (by simp), Nat.le_refl _, by omega, by omega, (((Below.refl _ _).alloc (Nat.le_refl _) _).alloc (by simp) _).drew⟩
theorem bc_pad (l : List UInt8) : bc l ++ (bc (List.replicate 64 0)).drop l.length = bc (l ++ List.replicate (64 - l.length) 0) := by rw [bc_append, ← bc_drop, List.drop_replicate]
theorem xor54 (y : UInt8) : bits .xor .u8 (y.toNat : Int) 54 = ((y ^^^ 54).toNat : Int) := by rw [UInt8.toNat_xor]; exact u8_xor_nat _ 54 y.toNat_lt (by decide)
theorem xor92 (y : UInt8) : bits .xor .u8 (y.toNat : Int) 92 = ((y ^^^ 92).toNat : Int) := by rw [UInt8.toNat_xor]; exact u8_xor_nat _ 92 y.toNat_lt (by decide)
theorem mac_of {k kb : List UInt8} (h : Unit → keyB k = kb) (ls : List (List UInt8)) : mac k ls.flatten = sha (xorB kb 92 ++ sha (xorB kb 54 :: ls).flatten) := by unfold mac; rw [h (), List.flatten_cons]
theorem keyB_big {k : List UInt8} (h : 64 < k.length) : keyB k = sha k ++ List.replicate (64 - (sha k).length) 0 := by unfold keyB; rw [if_pos h]
theorem keyB_small {k : List UInt8} (h : ¬ 64 < k.length) : keyB k = k ++ List.replicate (64 - k.length) 0 := by unfold keyB; rw [if_neg h]

set_option maxHeartbeats 2000000 in
set_option maxRecDepth 4000 in
theorem hmac_calls (A : Option Addr) (k : List UInt8) (c : Nat) (A2 : Option Addr) (ls : List (List UInt8)) (c2 : Nat) (w : World) (F : Nat → Prop) (hk : Rd w F A (bc k)) (hkc : k.length ≤ c) (hr : RdL w F A2 ls) (hG : Glb w) (hkl : k.length ≤ 1099511627776) (hl : ls.flatten.length ≤ 549755813888) (hn : ls.length ≤ 549755813888) :
    Calls Tryd.prog 28 #[.slice A k.length c, .slice A2 ls.length c2] w fun e w' => e = .returned (.agg (bc (mac k ls.flatten)).toArray) ∧ Below w.heap.size w w' := by
  have HK := Lib.hid (hk.mono (F' := fun k => k < w.heap.size) fun k hk _ => hk)
  have HR := Lib.hid (hr.mono (F' := fun k => k < w.heap.size) fun k hk _ => hk)
  have HG0 := glb_pos hG
  have HG := Lib.hid hG
  clear hk hr hG
  by_cases hbig : 64 < k.length
  all_goals
    go_enter Tryd.func28, Tryd.ntmps28
    go_wp2_with fail
  refine (hsum_calls (some ⟨w.heap.size + 1, 0, none⟩) [k] 1 _ (fun k => k < w.heap.size ∨ k = w.heap.size + 1) ((rdl_one _ (HK.out.alloc _) hkc (by simp)).mono (by simp)) ((HG.out.alloc _).alloc _) (by simpa using hkl) (by simp)).mono ?_
  rintro e wb ⟨rfl, hbb⟩
  have hB4 : Blk wb w.heap.size 31 (bc (List.replicate 32 0)).toArray := by
    rw [z32]
    exact (((Blk.new w _ _).alloc _).below hbb)
  have HB4 := Lib.hid hB4
  have hbel : Below w.heap.size w wb := ((((Below.refl _ _).alloc (Nat.le_refl _) _).alloc (by simp) _).trans (hbb.mono (by simp; omega)))
  have hsz : w.heap.size + 2 ≤ wb.heap.size := by have := hbb.size; simpa using this
  rw [show [k].flatten = k from by simp]
  clear hB4 hbb
  have hsk : (bc (sha k)).toArray.size = 32 := by simp [sha_length]
  have HSK := fun _ : Unit => hsk
  clear hsk
  have hnew : Blk (wb.alloc (.cells (bc (List.replicate 32 0)).toArray 31)) wb.heap.size 31 (bc (List.replicate 32 0)).toArray := Blk.new _ _ _
  rw [z32] at hnew
  have HNEW := Lib.hid hnew
  clear hnew
  go_wp2_with (refine wpList_store_row rfl 31 _ _ rfl wb.heap.size (bc (sha k)).toArray rfl rfl 31 _ HNEW.out (by rw [HSK ()]; kernel_rfl) rfl (bc_all _) ?_)
  generalize hwc : World.setRow (World.alloc wb _) _ _ = wc
  have hwb : wc.heap.size = wb.heap.size + 1 := by rw [← hwc]; simp
  have H4 : Hid (Blk wc w.heap.size 31 (bc (List.replicate 32 0)).toArray) := by
    show Blk _ _ _ _
    rw [← hwc]
    exact (HB4.out.alloc _).setRow_far (by omega) _
  have HKK : Hid (Rd wc (fun k => k < wc.heap.size) (some ⟨wb.heap.size, 0, none⟩) (bc (sha k))) := by
    show Rd _ _ _ _
    rw [← hwc]
    exact (rd_blk (HNEW.out.setRow _)).mono fun k h hk => by subst hk; simp
  have hbc : Below w.heap.size w wc := by
    rw [← hwc]
    exact below_setRow_own (hbel.alloc (by omega) _) (by omega) _
  have hsc : w.heap.size < wc.heap.size := by omega
  have HKB := fun _ : Unit => keyB_big hbig
  have HKL : (sha k).length ≤ 64 := by rw [sha_length]; omega
  rw [show (32 : Nat) = (sha k).length from (sha_length k).symm]
  generalize sha k = kk at *
  generalize hAA : (some ⟨wb.heap.size, 0, none⟩ : Option Addr) = AA at *
  clear hwc hwb HB4 HNEW hbel hsz HSK HK hAA
  rotate_left
  obtain ⟨kk, rfl⟩ : ∃ kk, kk = k := ⟨_, rfl⟩
  obtain ⟨AA, rfl⟩ : ∃ AA, AA = A := ⟨_, rfl⟩
  generalize hwc : World.alloc w _ = wc
  have H4 : Hid (Blk wc w.heap.size 31 (bc (List.replicate 32 0)).toArray) := by
    show Blk _ _ _ _
    rw [← hwc, z32]
    exact Blk.new _ _ _
  have hbc : Below w.heap.size w wc := by
    rw [← hwc]
    exact (Below.refl _ _).alloc (Nat.le_refl _) _
  have hsc : w.heap.size < wc.heap.size := by rw [← hwc]; simp
  have HKK : Hid (Rd wc (fun k => k < wc.heap.size) AA (bc kk)) := (HK.out.belowB hbc fun k hk => hk).mono fun k _ h => by omega
  have HKB := fun _ : Unit => keyB_small hbig
  have HKL : kk.length ≤ 64 := by omega
  clear hwc HK
  all_goals
    have hmk := mk64
    go_region
  obtain ⟨g1, g2, e1, e2, bg1, bg2, lg1, lg2, hne, hbd⟩ := two64_has wc
  have hgg : g1 ≠ g2 := by omega
  rw [← e2, ← e1]
  rw [show ((wc.alloc (.cells (Zs 64) 5)).alloc (.cells (Zs 64) 5)).drew = two64 wc from rfl]
  have B1 := Lib.hid bg1
  have B2 := Lib.hid bg2
  generalize two64 wc = wd at *
  clear e1 e2 bg1 bg2 hne
  rotate_left
  obtain ⟨g2, g1, e1, e2, bg2, bg1, lg2, lg1, hne, hbd⟩ := two64_has wc
  have hgg : g1 ≠ g2 := by omega
  rw [← e2, ← e1]
  rw [show ((wc.alloc (.cells (Zs 64) 5)).alloc (.cells (Zs 64) 5)).drew = two64 wc from rfl]
  have B1 := Lib.hid bg1
  have B2 := Lib.hid bg2
  generalize two64 wc = wd at *
  clear e1 e2 bg1 bg2 hne
  rotate_left
  obtain ⟨g1, g2, e1, e2, bg1, bg2, lg1, lg2, hne, hbd⟩ := two64_has wc
  have hgg : g1 ≠ g2 := by omega
  rw [← e2, ← e1]
  rw [show ((wc.alloc (.cells (Zs 64) 5)).alloc (.cells (Zs 64) 5)).drew = two64 wc from rfl]
  have B1 := Lib.hid bg1
  have B2 := Lib.hid bg2
  generalize two64 wc = wd at *
  clear e1 e2 bg1 bg2 hne
  rotate_left
  obtain ⟨g2, g1, e1, e2, bg2, bg1, lg2, lg1, hne, hbd⟩ := two64_has wc
  have hgg : g1 ≠ g2 := by omega
  rw [← e2, ← e1]
  rw [show ((wc.alloc (.cells (Zs 64) 5)).alloc (.cells (Zs 64) 5)).drew = two64 wc from rfl]
  have B1 := Lib.hid bg1
  have B2 := Lib.hid bg2
  generalize two64 wc = wd at *
  clear e1 e2 bg1 bg2 hne
  rotate_left
  all_goals
    have H4 := Lib.hid (H4.out.below hbd)
    have HKK := Lib.hid (HKK.out.below hbd)
    have hbc := below_then hbc hbd (Nat.le_refl _)
    obtain ⟨kb, hkb⟩ : ∃ kb, kb = kk ++ List.replicate (64 - kk.length) 0 := ⟨_, rfl⟩
    rw [← hkb] at HKB
    have HBP := fun _ : Unit => bc_pad kk
    rw [← hkb] at HBP
    have hkbl : kb.length = 64 := by rw [hkb]; simp; omega
    have HKBL := fun _ : Unit => hkbl
    clear hbd hmk hkb hkbl
    go_wp2_with (first | ((with_reducible refine wpList_copy_rd (o := ⟨some 21, _, _, _, _, _⟩) rfl _ _ _ _ rfl 5 Tryd.underlying25 (by kernel_rfl) g1 64 64 AA _ kk rfl rfl (bc (List.replicate 64 0)) _ B1.out _ HKK.out HKL (by simp) ?_); intro w1 hc1 hf1; rw [HBP ()] at hc1; have C1 := Lib.hid hc1; have B2 := Lib.hid (B2.out.keep hf1 (by omega)); have HKK := Lib.hid (HKK.out.keep hf1 fun k _ h1 h2 => by omega); have H4 := Lib.hid (H4.out.keep hf1 (by omega)); have hbc := below_fr hbc hf1 (Nat.le_refl _) (fun k h1 h2 => by omega); clear hf1 hc1) | ((with_reducible refine wpList_copy_rd (o := ⟨some 24, _, _, _, _, _⟩) rfl _ _ _ _ rfl 5 Tryd.underlying25 (by kernel_rfl) g2 64 64 AA _ kk rfl rfl (bc (List.replicate 64 0)) _ B2.out _ HKK.out HKL (by simp) ?_); intro w2 hc2 hf2; rw [HBP ()] at hc2; have C2 := Lib.hid hc2; clear hc2))
    have C1 := Lib.hid (C1.out.keep hf2 (by omega))
    have H4 := Lib.hid (H4.out.keep hf2 (by omega))
    have hbc := below_fr hbc hf2 (Nat.le_refl _) (fun k h1 h2 => by omega)
    clear hf2 HKK B1 B2
    go_loopw [25] (fun i wr => ∃ n : Nat, n ≤ 64 ∧ i = .int .i64 n ∧ Hid (Blk wr g1 5 (bc (xorP kb 54 n)).toArray) ∧ Hid (Blk wr g2 5 (bc (xorP kb 92 n)).toArray) ∧ Hid (Blk wr w.heap.size 31 (bc (List.replicate 32 0)).toArray) ∧ Hid (Below w.heap.size w wr)) (fun i _ => 64 - (intOf i).toNat)
    case atStart => exact ⟨0, by omega, rfl, by rw [xorP_zero]; exact C1.out, by rw [xorP_zero]; exact C2.out, H4.out, hbc⟩
    case round =>
      clear C1 C2 H4 hbc
      obtain ⟨n, hn, rfl, hB1, hB2, hB4, hfr⟩ := hrel
      by_cases hlt : n < 64
      · have hnl : n < kb.length := by rw [HKBL ()]; exact hlt
        have s1 := xorP_set kb 54 n hnl
        have s2 := xorP_set kb 92 n hnl
        have q1 := (hB1.out.cell n).trans ((List.getElem?_toArray ..).trans (by show (bc (xorP kb 54 n))[n]? = _; unfold bc; rw [List.getElem?_map, xorP_get kb 54 n hnl]))
        have q2 := (hB2.out.cell n).trans ((List.getElem?_toArray ..).trans (by show (bc (xorP kb 92 n))[n]? = _; unfold bc; rw [List.getElem?_map, xorP_get kb 92 n hnl]))
        have f1 := hB1.out.frozen n
        have f2 := hB2.out.frozen n
        generalize kb[n]'hnl = y at *
        have x1 := xor54 y
        have x2 := xor92 y
        have S1 := fun _ : Unit => s1
        have S2 := fun _ : Unit => s2
        clear s1 s2
        have e1 := (hB1.out.set_ n (.int .u8 ((y ^^^ 54).toNat : Int))).far (p := ⟨g2, n, none⟩) hgg (.int .u8 ((y ^^^ 92).toNat : Int))
        rw [bc_aset, S1 (), UInt8.toNat_xor, UInt8.toNat_xor] at e1
        have e2 := (hB2.out.far (p := ⟨g1, n, none⟩) (Ne.symm hgg) (.int .u8 ((y ^^^ 54).toNat : Int))).set_ n (.int .u8 ((y ^^^ 92).toNat : Int))
        rw [bc_aset, S2 (), UInt8.toNat_xor, UInt8.toNat_xor] at e2
        have E1 := Lib.hid e1
        have E2 := Lib.hid e2
        clear e1 e2
        go_wp2_with fail
        go_roundw
        case rel => exact ⟨n + 1, by omega, by go_num, E1.out, E2.out, (hB4.out.far (by show _ ≠ g1; omega) _).far (by show _ ≠ g2; omega) _, (hfr.out.setCell (by show _ ≤ g1; omega) _).setCell (by show _ ≤ g2; omega) _⟩
        case measure => simp [intOf]; omega
      · have h64 : n = 64 := by omega
        subst h64
        have D1 := hB1.out
        have D2 := hB2.out
        rw [xorP_all _ _ _ (by rw [HKBL ()]; omega)] at D1 D2
        have D1 := Lib.hid D1
        have D2 := Lib.hid D2
        clear hB1 hB2
        obtain ⟨i0, hi0, hz0, hz1, hz2⟩ := info_parts info_rows
        have HR2 := Lib.hid (HR.out.belowB hfr.out fun k hk => hk)
        obtain ⟨vs, hvl, hvr, hv1, hvi⟩ := HR2.out.vals
        have HV1 := fun _ : Unit => hv1
        have hsw := hfr.out.size
        have HVR := Lib.hid hvr
        have HVI := Lib.hid hvi
        clear hvr hvi hv1
        go_wp2_with (at_builtin; (with_reducible refine wpList_append_rd _ rfl (.tmp 42) (.tmp 43) _ rfl w.heap.size 25 i0 _ 24 Tryd.underlying38 hi0 hz0 hz1 hz2 rfl (.slice (some ⟨wr.heap.size, 0, none⟩) 1 1) 1 [.slice (some ⟨g1, 0, none⟩) 64 64] rfl (World.ownsRow_lit wr #[.slice (some ⟨g1, 0, none⟩) 64 64] 1 hsw (by decide) rfl) _ A2 ls.length c2 vs rfl hvl.symm (HVR.out.alloc _) (HV1 ()) (by rw [hvl]; simp [maxLen]; omega) (by rw [hvl]; omega) (by simp; omega) ?_); intro v3 w3 hown3 hg3 hat3; have HG3 := Lib.hid hg3; have HOWN3 := Lib.hid hown3; clear hg3 hown3 hat3; obtain ⟨A3, c3, rfl, hc3⟩ := own_shape HOWN3.out; clear hc3)
        have hL : 1 + ls.length = (xorB kb 54 :: ls).length := by simp; omega
        have hx1 : (xorB kb 54).length = 64 := by rw [xorB_length, HKBL ()]
        have hx2 : (xorB kb 92).length = 64 := by rw [xorB_length, HKBL ()]
        have f3 : Fr (fun _ => False) wr w3 := ((Fr.refl (fun _ => False) wr).alloc _).grown HG3.out fun k e hk => by
          have := Option.some.inj (show some wr.heap.size = some k from e)
          omega
        have hrl : RdL w3 (fun _ => True) A3 (xorB kb 54 :: ls) :=
          rdl_own (w := wr) (n0 := 64) HOWN3.out hx1.symm (by omega) ((rd_blk D1.out).keep f3 fun _ _ _ h => h) (by rw [hx1]; omega) hvl HVI.out f3 fun _ _ _ h => h
        have hbel3 := below_fr hfr.out f3 (Nat.le_refl _) fun _ _ h => h
        have D2 := Lib.hid (D2.out.keep f3 fun h => h)
        have H4 := Lib.hid (hB4.out.keep f3 fun h => h)
        have hlt4 := H4.out.lt
        have HX1 := fun _ : Unit => hx1
        have HX2 := fun _ : Unit => hx2
        rw [hL]
        have HL := fun _ : Unit => hL
        clear hx1 hx2 HVI HVR HV1 HG3 HOWN3 D1 hB4 f3 hL hvl HR2
        refine (hsum_calls A3 (xorB kb 54 :: ls) c3 w3 _ hrl (HG.out.belowB hbel3 fun k hk => by subst hk; exact HG0) (by rw [List.flatten_cons, List.length_append, HX1 ()]; omega) (by simp; omega)).mono ?_
        rintro e w4 ⟨rfl, hb4⟩
        have hbel4 := below_then hbel3 hb4 (Nat.le_refl _)
        have D2 := Lib.hid (D2.out.below hb4)
        have H4 := Lib.hid (H4.out.below hb4)
        have hlt4 := H4.out.lt
        have hlt5 := D2.out.lt
        have hmac := mac_of HKB ls
        have HM := fun _ : Unit => hmac
        have hul := sha_length (xorB kb 54 :: ls).flatten
        generalize sha (xorB kb 54 :: ls).flatten = u at *
        have hus : (bc u).toArray.size = 32 := by simp [hul]
        have HUS := fun _ : Unit => hus
        have HUL := fun _ : Unit => hul
        have hnew : Blk (w4.alloc (.cells (bc (List.replicate 32 0)).toArray 31)) w4.heap.size 31 (bc (List.replicate 32 0)).toArray := Blk.new _ _ _
        rw [z32] at hnew
        have HNEW := Lib.hid hnew
        clear hmac hus hul hnew hrl hb4 hbel3
        go_wp2_with (refine wpList_store_row rfl 31 _ _ rfl w4.heap.size (bc u).toArray rfl rfl 31 _ HNEW.out (by rw [HUS ()]; kernel_rfl) (by rw [HUS ()]; rfl) (bc_all _) ?_)
        generalize hw5 : World.setRow (World.alloc w4 _) _ _ = w5
        have hs5 : w4.heap.size + 1 = w5.heap.size := by rw [← hw5]; simp
        have U5 : Hid (Blk w5 w4.heap.size 31 (bc u).toArray) := by
          show Blk _ _ _ _
          rw [← hw5]
          exact HNEW.out.setRow _
        have D5 : Hid (Blk w5 g2 5 (bc (xorB kb 92)).toArray) := by
          show Blk _ _ _ _
          rw [← hw5]
          exact (D2.out.alloc _).setRow_far (by omega) _
        have H5 : Hid (Blk w5 w.heap.size 31 (bc (List.replicate 32 0)).toArray) := by
          show Blk _ _ _ _
          rw [← hw5]
          exact (H4.out.alloc _).setRow_far (by omega) _
        have hbel5 : Below w.heap.size w w5 := by
          rw [← hw5]
          exact below_setRow_own (hbel4.alloc (by omega) _) (by omega) _
        have HS5 := fun _ : Unit => hs5
        clear hw5 HNEW H4 D2 hs5
        refine (hsum_calls (some ⟨w4.heap.size + 1, 0, none⟩) [xorB kb 92, u] 2 _ (fun _ => True) (rdl_two_eq _ ((rd_blk D5.out).mono fun _ _ _ => trivial) (by rw [HX2 ()]; omega) ((rd_blk U5.out).mono fun _ _ _ => trivial) (by rw [HUL ()]; omega) (HS5 ()) (HX2 ()).symm (HUL ()).symm) ((HG.out.belowB hbel5 fun k hk => by subst hk; exact HG0).alloc _) (by simp [HX2 (), HUL ()]) (by simp)).mono ?_
        rintro e w6 ⟨rfl, hb6⟩
        have hbel6 : Below w.heap.size w w6 := below_then (hbel5.alloc hbel5.size _) hb6 (Nat.le_refl _)
        have H6 := Lib.hid ((H5.out.alloc _).below hb6)
        rw [show [xorB kb 92, u].flatten = xorB kb 92 ++ u from by simp]
        have hzl := sha_length (xorB kb 92 ++ u)
        generalize sha (xorB kb 92 ++ u) = z at *
        have hzs : (bc z).toArray.size = 32 := by simp [hzl]
        have HZS := fun _ : Unit => hzs
        clear hzs hzl hb6 U5 D5 H5
        go_wp2_with (refine wpList_store_row rfl 31 _ _ rfl w.heap.size (bc z).toArray rfl rfl 31 _ H6.out (by rw [HZS ()]; kernel_rfl) (by rw [HZS ()]; rfl) (bc_all _) ?_)
        refine bodyPost_ret (results_cell_row rfl _ _ w.heap.size 31 (bc z).toArray (0, 0) _ rfl (H6.out.setRow _) Tryd.underlying31 rfl (by rw [HZS ()]; kernel_rfl)) rfl ?_
        exact ⟨by rw [HM ()], below_setRow_own hbel6 (Nat.le_refl _) _⟩
end Go.Proofs.YtbhaekdfpfncnaaDoor
