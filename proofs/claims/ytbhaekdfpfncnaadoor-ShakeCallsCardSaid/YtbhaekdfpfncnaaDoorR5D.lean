/- drawbridgeref05.Mac: HMAC. -/
import Derived.Test.YtbhaekdfpfncnaaDoorR5C
import Derived.Test.YtbhaekdfpfncnaaDoorApp
import Derived.RegionTactic
import Derived.BigRegion
namespace Go.Proofs.YtbhaekdfpfncnaaDoor
set_option linter.unusedVariables false
set_option linter.unusedSimpArgs false
open Go.RowKit

/-- The first n bytes of the key turned, then zeros. -/
def outX (l : List UInt8) (c : UInt8) (n : Nat) : List UInt8 := xorB (l.take n) c ++ List.replicate (64 - n) 0
theorem outX_length (l : List UInt8) (c : UInt8) (n : Nat) (h : l.length = 64) : (outX l c n).length = max n 64 - n + min n 64 := by simp [outX, xorB_length, h]; omega
theorem outX_set (l : List UInt8) (c : UInt8) (n : Nat) (h : l.length = 64) (hn : n < 64) : (outX l c n).set n (l[n]'(by omega) ^^^ c) = outX l c (n + 1) := by
  have h1 : (xorB (l.take n) c).length = n := by rw [xorB_length, List.length_take]; omega
  unfold outX
  rw [List.set_append_right _ _ (by omega), h1, Nat.sub_self, show 64 - n = (64 - (n + 1)) + 1 from by omega, List.replicate_succ, List.set_cons_zero, List.take_succ_eq_append_getElem (by omega)]
  unfold xorB
  rw [List.map_append, List.append_assoc]
  rfl
theorem outX_all (l : List UInt8) (c : UInt8) (h : l.length = 64) : outX l c 64 = xorB l c := by simp [outX, List.take_of_length_le (Nat.le_of_eq h)]
theorem mac4 {w w0 : World} (h : World.alloc (World.alloc (World.alloc (World.alloc w (.cells #[.int .u8 0, .int .u8 0, .int .u8 0, .int .u8 0, .int .u8 0, .int .u8 0, .int .u8 0, .int .u8 0, .int .u8 0, .int .u8 0, .int .u8 0, .int .u8 0, .int .u8 0, .int .u8 0, .int .u8 0, .int .u8 0, .int .u8 0, .int .u8 0, .int .u8 0, .int .u8 0, .int .u8 0, .int .u8 0, .int .u8 0, .int .u8 0, .int .u8 0, .int .u8 0, .int .u8 0, .int .u8 0, .int .u8 0, .int .u8 0, .int .u8 0, .int .u8 0] 31)) (.cells #[.int .u8 0, .int .u8 0, .int .u8 0, .int .u8 0, .int .u8 0, .int .u8 0, .int .u8 0, .int .u8 0, .int .u8 0, .int .u8 0, .int .u8 0, .int .u8 0, .int .u8 0, .int .u8 0, .int .u8 0, .int .u8 0, .int .u8 0, .int .u8 0, .int .u8 0, .int .u8 0, .int .u8 0, .int .u8 0, .int .u8 0, .int .u8 0, .int .u8 0, .int .u8 0, .int .u8 0, .int .u8 0, .int .u8 0, .int .u8 0, .int .u8 0, .int .u8 0, .int .u8 0, .int .u8 0, .int .u8 0, .int .u8 0, .int .u8 0, .int .u8 0, .int .u8 0, .int .u8 0, .int .u8 0, .int .u8 0, .int .u8 0, .int .u8 0, .int .u8 0, .int .u8 0, .int .u8 0, .int .u8 0, .int .u8 0, .int .u8 0, .int .u8 0, .int .u8 0, .int .u8 0, .int .u8 0, .int .u8 0, .int .u8 0, .int .u8 0, .int .u8 0, .int .u8 0, .int .u8 0, .int .u8 0, .int .u8 0, .int .u8 0, .int .u8 0] 66)) (.cells #[.int .u8 0, .int .u8 0, .int .u8 0, .int .u8 0, .int .u8 0, .int .u8 0, .int .u8 0, .int .u8 0, .int .u8 0, .int .u8 0, .int .u8 0, .int .u8 0, .int .u8 0, .int .u8 0, .int .u8 0, .int .u8 0, .int .u8 0, .int .u8 0, .int .u8 0, .int .u8 0, .int .u8 0, .int .u8 0, .int .u8 0, .int .u8 0, .int .u8 0, .int .u8 0, .int .u8 0, .int .u8 0, .int .u8 0, .int .u8 0, .int .u8 0, .int .u8 0, .int .u8 0, .int .u8 0, .int .u8 0, .int .u8 0, .int .u8 0, .int .u8 0, .int .u8 0, .int .u8 0, .int .u8 0, .int .u8 0, .int .u8 0, .int .u8 0, .int .u8 0, .int .u8 0, .int .u8 0, .int .u8 0, .int .u8 0, .int .u8 0, .int .u8 0, .int .u8 0, .int .u8 0, .int .u8 0, .int .u8 0, .int .u8 0, .int .u8 0, .int .u8 0, .int .u8 0, .int .u8 0, .int .u8 0, .int .u8 0, .int .u8 0, .int .u8 0] 66)) (.cells #[.int .u8 0, .int .u8 0, .int .u8 0, .int .u8 0, .int .u8 0, .int .u8 0, .int .u8 0, .int .u8 0, .int .u8 0, .int .u8 0, .int .u8 0, .int .u8 0, .int .u8 0, .int .u8 0, .int .u8 0, .int .u8 0, .int .u8 0, .int .u8 0, .int .u8 0, .int .u8 0, .int .u8 0, .int .u8 0, .int .u8 0, .int .u8 0, .int .u8 0, .int .u8 0, .int .u8 0, .int .u8 0, .int .u8 0, .int .u8 0, .int .u8 0, .int .u8 0, .int .u8 0, .int .u8 0, .int .u8 0, .int .u8 0, .int .u8 0, .int .u8 0, .int .u8 0, .int .u8 0, .int .u8 0, .int .u8 0, .int .u8 0, .int .u8 0, .int .u8 0, .int .u8 0, .int .u8 0, .int .u8 0, .int .u8 0, .int .u8 0, .int .u8 0, .int .u8 0, .int .u8 0, .int .u8 0, .int .u8 0, .int .u8 0, .int .u8 0, .int .u8 0, .int .u8 0, .int .u8 0, .int .u8 0, .int .u8 0, .int .u8 0, .int .u8 0] 66) = w0) :
    Blk w0 w.heap.size 31 (bc (List.replicate 32 0)).toArray ∧ Blk w0 (w.heap.size + 1) 66 (bc (List.replicate 64 0)).toArray ∧ Blk w0 (w.heap.size + 2) 66 (bc (List.replicate 64 0)).toArray ∧ Blk w0 (w.heap.size + 3) 66 (bc (List.replicate 64 0)).toArray ∧ NewMem w w0 ∧ w0.heap.size = w.heap.size + 4 := by
  subst h
  rw [← z32, ← z64]
  exact ⟨(((Blk.new _ _ _).alloc _).alloc _).alloc _, ((Blk.newAt _ _ (by simp)).alloc _).alloc _, (Blk.newAt _ _ (by simp)).alloc _, Blk.newAt _ _ (by simp), ((((NewMem.alloc _ _).more _).more _).more _), by simp⟩

set_option maxHeartbeats 4000000 in
set_option maxRecDepth 4000 in
theorem rmac_calls (A : Option Addr) (k : List UInt8) (c : Nat) (A2 : Option Addr) (ls : List (List UInt8)) (c2 : Nat) (w : World) (F : Nat → Prop) (hk : Rd w F A (bc k)) (hkc : k.length ≤ c) (hr : RdL w F A2 ls) (hG : Glb w) (hkl : k.length ≤ 1099511627776) (hl : ls.flatten.length ≤ 549755813888) (hn : ls.length ≤ 549755813888) :
    Calls Tryd.prog 29 #[.slice A k.length c, .slice A2 ls.length c2] w fun e w' => e = .returned (.agg (bc (mac k ls.flatten)).toArray) ∧ Below w.heap.size w w' := by
  have HK := Lib.hid (hk.mono (F' := fun k => k < w.heap.size) fun k hk _ => hk)
  have HR := Lib.hid (hr.mono (F' := fun k => k < w.heap.size) fun k hk _ => hk)
  have HG0 := glb_pos hG
  have HG := Lib.hid hG
  obtain ⟨i0, hi0, hz0, hz1, hz2⟩ := info_parts info_u8
  clear hk hr hG
  by_cases hbig : 64 < k.length
  go_enter Tryd.func29, Tryd.ntmps29
  go_wp2_with fail
  generalize hw0 : World.alloc (World.alloc (World.alloc (World.alloc w _) _) _) _ = w0
  obtain ⟨b4, bk, bi, bo, n0, s0⟩ := mac4 hw0
  have B4 := Lib.hid b4
  have BK := Lib.hid bk
  have BI := Lib.hid bi
  have BO := Lib.hid bo
  have HK0 := Lib.hid (HK.out.below n0)
  have HG2 := Lib.hid (HG.out.below n0)
  have S0 := fun _ : Unit => s0
  clear hw0 b4 bk bi bo s0
  refine (rsum_calls (some ⟨w.heap.size + 1 + 1 + 1 + 1, 0, none⟩) [k] 1 _ _ (rdl_one _ HK0.out hkc (by have := S0 (); omega)) (HG2.out.alloc _) (by simpa using hkl) (by simp)).mono ?_
  rintro e wb ⟨rfl, hbb⟩
  have B4 := Lib.hid ((B4.out.alloc _).below hbb)
  have BK := Lib.hid ((BK.out.alloc _).below hbb)
  have BI := Lib.hid ((BI.out.alloc _).below hbb)
  have BO := Lib.hid ((BO.out.alloc _).below hbb)
  have n1 : NewMem w wb := below_then (n0.more _) hbb (Nat.le_refl _)
  have hsb : w.heap.size + 5 ≤ wb.heap.size := by have := hbb.size; have := S0 (); simp at *; omega
  rw [show [k].flatten = k from by simp]
  have hsk : (bc (sha k)).toArray.size = 32 := by simp [sha_length]
  have HSK := fun _ : Unit => hsk
  have hnew : Blk (wb.alloc (.cells (bc (List.replicate 32 0)).toArray 31)) wb.heap.size 31 (bc (List.replicate 32 0)).toArray := Blk.new _ _ _
  rw [z32] at hnew
  have HNEW := Lib.hid hnew
  have HKB := fun _ : Unit => keyB_big hbig
  have hskl := sha_length k
  have HSKL := fun _ : Unit => hskl
  clear hsk hnew hskl hbb n0 HK0 HG2 S0
  generalize sha k = kk at *
  go_wp2_with (refine wpList_store_row rfl 31 _ _ rfl wb.heap.size (bc kk).toArray rfl rfl 31 _ HNEW.out (by rw [HSK ()]; kernel_rfl) (by rw [HSK ()]; rfl) (bc_all _) ?_)
  generalize hwc : World.setRow (World.alloc wb _) _ _ = wc
  have n2 : NewMem wb wc := by rw [← hwc]; exact below_setRow_own (NewMem.alloc _ _) (Nat.le_refl _) _
  have HH : Hid (Blk wc wb.heap.size 31 (bc kk).toArray) := by
    show Blk _ _ _ _
    rw [← hwc]
    exact HNEW.out.setRow _
  have B4 := Lib.hid (B4.out.below n2)
  have BK := Lib.hid (BK.out.below n2)
  have BI := Lib.hid (BI.out.below n2)
  have BO := Lib.hid (BO.out.below n2)
  have n3 : NewMem w wc := below_then n1 n2 (Nat.le_refl _)
  clear hwc HNEW n2 n1 HSK
  go_still_tail 2, (by kernel_rfl)
  change wpList _ _ _ _ _ wc.drew
  generalize hwd : wc.drew = wd
  have n4 : NewMem wc wd := by rw [← hwd]; exact (NewMem.refl _).drew
  have HH := Lib.hid (HH.out.below n4)
  have B4 := Lib.hid (B4.out.below n4)
  have BK := Lib.hid (BK.out.below n4)
  have BI := Lib.hid (BI.out.below n4)
  have BO := Lib.hid (BO.out.below n4)
  have n5 : NewMem w wd := below_then n3 n4 (Nat.le_refl _)
  obtain ⟨kb, hkb⟩ : ∃ kb, kb = kk ++ List.replicate (64 - kk.length) 0 := ⟨_, rfl⟩
  rw [← hkb] at HKB
  have HBP := fun _ : Unit => bc_pad kk
  rw [← hkb] at HBP
  have hkbl : kb.length = 64 := by rw [hkb]; simp [HSKL ()]
  have HKBL := fun _ : Unit => hkbl
  clear hwd n4 n3 hkb hkbl
  go_wp2_with (refine wpList_copy_rd (o := ⟨some 21, _, _, _, _, _⟩) rfl _ _ _ _ rfl 5 Tryd.underlying25 (by kernel_rfl) (w.heap.size + 1) 64 64 (some ⟨wb.heap.size, 0, none⟩) 32 kk rfl (by rw [HSKL ()]; rfl) (bc (List.replicate 64 0)) _ BK.out _ (rd_blk HH.out) (by rw [HSKL ()]; omega) (by simp) ?_; intro w1 hc1 hf1; rw [HBP ()] at hc1; have KB := Lib.hid hc1; clear hc1)
  have B4 := Lib.hid (B4.out.keep hf1 (by omega))
  have BI := Lib.hid (BI.out.keep hf1 (by omega))
  have BO := Lib.hid (BO.out.keep hf1 (by omega))
  have n1 : NewMem w w1 := below_fr n5 hf1 (Nat.le_refl _) fun k h1 h2 => by omega
  have hsw : w.heap.size + 4 ≤ w1.heap.size := by have := BO.out.lt; omega
  clear hf1 n5 BK HH HSKL HBP hsb
  rotate_left
  go_enter Tryd.func29, Tryd.ntmps29
  go_wp2_with ((generalize hw0 : World.alloc (World.alloc (World.alloc (World.alloc w _) _) _) _ = w0); (obtain ⟨b4, bk, bi, bo, n0, s0⟩ := mac4 hw0); (have B4 := Lib.hid b4); (have BK := Lib.hid bk); (have BI := Lib.hid bi); (have BO := Lib.hid bo); (have HK0 := Lib.hid (HK.out.below n0)); clear hw0 b4 bk bi bo s0; (with_reducible refine wpList_copy_rd (o := ⟨some 24, _, _, _, _, _⟩) rfl _ _ _ _ rfl 5 Tryd.underlying25 (by kernel_rfl) (w.heap.size + 1) 64 64 A _ k rfl rfl (bc (List.replicate 64 0)) _ BK.out _ HK0.out (by omega) (by simp) ?_); intro w1 hc1 hf1; rw [bc_pad, ← keyB_small hbig] at hc1; have KB := Lib.hid hc1; clear hc1)
  have B4 := Lib.hid (B4.out.keep hf1 (by omega))
  have BI := Lib.hid (BI.out.keep hf1 (by omega))
  have BO := Lib.hid (BO.out.keep hf1 (by omega))
  have n1 : NewMem w w1 := below_fr n0 hf1 (Nat.le_refl _) fun k h1 h2 => by omega
  have hsw : w.heap.size + 4 ≤ w1.heap.size := by have := BO.out.lt; omega
  have hkbl := keyB_length k
  have hkb0 : keyB k = keyB k := rfl
  obtain ⟨kb, hkb⟩ : ∃ kb, kb = keyB k := ⟨_, rfl⟩
  rw [← hkb] at KB hkbl
  have HKBL := fun _ : Unit => hkbl
  have HKB := fun _ : Unit => hkb.symm
  generalize decide (64 < (k.length : Int)) = d15
  clear hf1 n0 BK HK0 hkb hkbl hkb0
  all_goals
    go_loopw [9] (fun i wr => ∃ n : Nat, n ≤ 64 ∧ i = .int .i64 n ∧ Hid (Blk wr (w.heap.size + 1) 66 (bc kb).toArray) ∧ Hid (Blk wr (w.heap.size + 2) 66 (bc (outX kb 54 n)).toArray) ∧ Hid (Blk wr (w.heap.size + 3) 66 (bc (outX kb 92 n)).toArray) ∧ Hid (Blk wr w.heap.size 31 (bc (List.replicate 32 0)).toArray) ∧ Hid (NewMem w wr)) (fun i _ => 64 - (intOf i).toNat)
    case atStart => exact ⟨0, by omega, rfl, KB, BI, BO, B4, n1⟩
    case round =>
      clear KB BI BO B4 n1
      obtain ⟨n, hn, rfl, hK, hI, hO, hB4, hN⟩ := hrel
      by_cases hlt : n < 64
      · have hnl : n < kb.length := by rw [HKBL ()]; exact hlt
        have s1 := outX_set kb 54 n (HKBL ()) hlt
        have s2 := outX_set kb 92 n (HKBL ()) hlt
        have ck := (hK.out.cell n).trans ((List.getElem?_toArray ..).trans (bc_get kb n hnl))
        have ci := (hI.out.cell n).trans ((List.getElem?_toArray ..).trans (bc_get (outX kb 54 n) n (by rw [outX_length _ _ _ (HKBL ())]; omega)))
        have co := (hO.out.cell n).trans ((List.getElem?_toArray ..).trans (bc_get (outX kb 92 n) n (by rw [outX_length _ _ _ (HKBL ())]; omega)))
        have fi := hI.out.frozen n
        have fo := hO.out.frozen n
        generalize (outX kb 54 n)[n]'_ = y1 at ci
        generalize (outX kb 92 n)[n]'_ = y2 at co
        generalize kb[n]'hnl = y at *
        have x1 := xor54 y
        have x2 := xor92 y
        have e1 := (hI.out.set_ n (.int .u8 ((y ^^^ 54).toNat : Int))).far (p := ⟨w.heap.size + 3, n, none⟩) (by show _ ≠ w.heap.size + 3; omega) (.int .u8 ((y ^^^ 92).toNat : Int))
        rw [bc_aset, s1] at e1
        have e2 := (hO.out.far (p := ⟨w.heap.size + 2, n, none⟩) (by show _ ≠ w.heap.size + 2; omega) (.int .u8 ((y ^^^ 54).toNat : Int))).set_ n (.int .u8 ((y ^^^ 92).toNat : Int))
        rw [bc_aset, s2] at e2
        have E1 := Lib.hid e1
        have E2 := Lib.hid e2
        have pn : (n : Int) < 64 := by omega
        have rn : 0 ≤ (n : Int) := by omega
        clear e1 e2 s1 s2 hnl
        go_wp2_with fail
        go_region
        go_wp2_with fail
        go_roundw
        case rel =>
          rw [UInt8.toNat_xor, UInt8.toNat_xor] at E1 E2
          exact ⟨n + 1, by omega, by go_num, (hK.out.far (by show _ ≠ w.heap.size + 2; omega) _).far (by show _ ≠ w.heap.size + 3; omega) _, E1.out, E2.out, (hB4.out.far (by show _ ≠ w.heap.size + 2; omega) _).far (by show _ ≠ w.heap.size + 3; omega) _, ((hN.out.setCell (by show _ ≤ w.heap.size + 2; omega) _).setCell (by show _ ≤ w.heap.size + 3; omega) _).drew⟩
        case measure => simp [intOf]; omega
      · have h64 : n = 64 := by omega
        subst h64
        have hI' := hI.out
        have hO' := hO.out
        rw [outX_all _ _ (HKBL ())] at hI' hO'
        have HI := Lib.hid hI'
        have HO := Lib.hid hO'
        have hq0 : (xorB kb 54).length = 64 := by rw [xorB_length, HKBL ()]
        have ho0 : (xorB kb 92).length = 64 := by rw [xorB_length, HKBL ()]
        have HQ0 := fun _ : Unit => hq0
        have HO0 := fun _ : Unit => ho0
        clear hI hO hI' hO' hq0 ho0 hK hlt hn
        rw [show ((64 : Nat) : Int) = (64 : Int) from rfl]
        go_wp2_with fail
        go_loopw [10, 11] (fun b i wr => ∃ (j : Nat) (b' : Addr) (c' : Nat) (q : List UInt8), j ≤ ls.length ∧ i = .int .i64 j ∧ Hid (q = xorB kb 54 ++ (ls.take j).flatten) ∧ b = .slice (some b') q.length c' ∧ q.length ≤ c' ∧ Hid (Rd wr (fun _ => True) (some b') (bc q)) ∧ Hid (Blk wr (w.heap.size + 3) 66 (bc (xorB kb 92)).toArray) ∧ Hid (Blk wr w.heap.size 31 (bc (List.replicate 32 0)).toArray) ∧ Hid (NewMem w wr)) (fun _ i _ => ls.length - (intOf i).toNat)
        case atStart => exact ⟨0, ⟨w.heap.size + 2, 0, none⟩, 64, xorB kb 54, by omega, rfl, by show _ = _; simp, by rw [HQ0 ()], by rw [HQ0 ()]; omega, (rd_blk HI.out).mono fun _ _ _ => trivial, HO, hB4, hN⟩
        case round =>
          clear HI HO hB4 hN
          obtain ⟨j, b', c', q, hj, rfl, hq, rfl, hqc, hR, hO, hB4, hN⟩ := hrel
          have hqb : q.length ≤ 824633720832 := by
            have h1 : (ls.take j).flatten.length ≤ ls.flatten.length := by
              have := congrArg List.length (congrArg List.flatten (List.take_append_drop j ls))
              rw [List.flatten_append, List.length_append] at this
              omega
            rw [hq.out, List.length_append, HQ0 ()]
            omega
          by_cases hlt : j < ls.length
          · obtain ⟨b1, off1, rfl, hb1, hcell1⟩ := RdL.form (HR.out.belowB hN.out fun k hk => hk) (by omega)
            obtain ⟨a3, c3, hc3, hr3, hlc3⟩ := hcell1 j _ (List.getElem?_eq_getElem hlt)
            clear hcell1
            have htk : (ls.take (j + 1)).flatten = (ls.take j).flatten ++ ls[j] := by rw [List.take_succ_eq_append_getElem hlt, List.flatten_append]; simp [List.flatten]
            have hle : ls[j].length ≤ 549755813888 := by
              have := congrArg List.length (congrArg List.flatten (List.take_append_drop (j + 1) ls))
              rw [List.flatten_append, List.length_append, htk, List.length_append] at this
              omega
            obtain ⟨l3, hl3⟩ : ∃ l3, l3 = ls[j] := ⟨_, rfl⟩
            rw [← hl3] at hc3 hr3 hlc3 htk hle
            have HTK := fun _ : Unit => htk
            have HR3 := Lib.hid hr3
            have pc : (q.length : Int) ≤ (c' : Int) := by omega
            have pj : (j : Int) < (ls.length : Int) := by omega
            have rj : 0 ≤ (j : Int) := by omega
            clear hl3 htk hr3
            go_wp2_with fail
            go_still_tail 10, (by kernel_rfl)
            change wpList _ _ _ _ _ wr.drew
            generalize hwd : wr.drew = w4
            have n4 : NewMem wr w4 := by rw [← hwd]; exact (NewMem.refl _).drew
            have hR4 := Lib.hid (hR.out.below n4)
            have HR4 := Lib.hid (HR3.out.below n4)
            have hO4 := Lib.hid (hO.out.below n4)
            have hB5 := Lib.hid (hB4.out.below n4)
            have hN4 : Hid (NewMem w w4) := below_then hN.out n4 (Nat.le_refl _)
            clear hwd n4 hR HR3 hO hB4 hN pc pj rj hc3
            go_wp2_with (at_builtin; (refine wpList_append_full rfl (.tmp 53) (.tmp 57) _ rfl 5 i0 _ Tryd.underlying25 hi0 hz0 hz1 hz2 rfl b' q rfl _ hR4.out a3 l3.length c3 l3 rfl rfl _ HR4.out (by omega) ?_); intro b5 c5 w5 hr5 hc5 n5)
            have hO5 := Lib.hid (hO4.out.below n5)
            have hB6 := Lib.hid (hB5.out.below n5)
            have hN5 : Hid (NewMem w w5) := below_then hN4.out n5 (Nat.le_refl _)
            have hq5 : Hid (q ++ l3 = xorB kb 54 ++ (ls.take (j + 1)).flatten) := by
              show _ = _
              rw [HTK (), hq.out, List.append_assoc]
            obtain ⟨q5, hq5e⟩ : ∃ q5, q5 = q ++ l3 := ⟨_, rfl⟩
            have hql : q.length + l3.length = q5.length := by rw [hq5e, List.length_append]
            rw [← hq5e] at hr5 hc5 hq5
            have HR5 := Lib.hid hr5
            have HQL := fun _ : Unit => hql
            clear hr5 n5 hR4 HR4 hO4 hB5 hN4 hq5e hql
            go_wp2_with fail
            go_roundw
            case rel => exact ⟨j + 1, b5, c5, q5, by omega, by go_num, hq5, by rw [HQL ()], hc5, HR5, hO5, hB6, hN5⟩
            case measure => simp [intOf]; omega
          · have hjl : j = ls.length := by omega
            subst hjl
            have hq' := hq.out
            rw [List.take_length] at hq'
            have hqf : [q].flatten = (xorB kb 54 :: ls).flatten := by rw [hq']; simp
            have HQF := fun _ : Unit => hqf
            have hmac := mac_of HKB ls
            have HM := fun _ : Unit => hmac
            clear hq hq' hqf hmac hlt hj
            go_wp2_with fail
            refine (rsum_calls (some ⟨wr.heap.size, 0, none⟩) [q] 1 _ (fun _ => True) ((rdl_one _ hR.out hqc rfl).mono fun _ _ _ => trivial) ((HG.out.belowB hN.out fun k hk => by subst hk; exact HG0).alloc _) (by simpa using by omega) (by simp)).mono ?_
            rintro e w4 ⟨rfl, hb4⟩
            rw [HQF ()]
            have hul := sha_length (xorB kb 54 :: ls).flatten
            generalize sha (xorB kb 54 :: ls).flatten = u at *
            have hus : (bc u).toArray.size = 32 := by simp [hul]
            have HUS := fun _ : Unit => hus
            have HUL := fun _ : Unit => hul
            have hO4 := Lib.hid ((hO.out.alloc _).below hb4)
            have hB5 := Lib.hid ((hB4.out.alloc _).below hb4)
            have hN4 : Hid (NewMem w w4) := below_then (hN.out.more _) hb4 (Nat.le_refl _)
            have hnew : Blk (w4.alloc (.cells (bc (List.replicate 32 0)).toArray 31)) w4.heap.size 31 (bc (List.replicate 32 0)).toArray := Blk.new _ _ _
            rw [z32] at hnew
            have HNEW := Lib.hid hnew
            clear hnew hus hul hO hB4 hN hb4 hR
            go_wp2_with (refine wpList_store_row rfl 31 _ _ rfl w4.heap.size (bc u).toArray rfl rfl 31 _ HNEW.out (by rw [HUS ()]; kernel_rfl) (by rw [HUS ()]; rfl) (bc_all _) ?_)
            generalize hw5 : World.setRow (World.alloc w4 _) _ _ = w5
            have n5 : NewMem w4 w5 := by rw [← hw5]; exact below_setRow_own (NewMem.alloc _ _) (Nat.le_refl _) _
            have U5 : Hid (Blk w5 w4.heap.size 31 (bc u).toArray) := by
              show Blk _ _ _ _
              rw [← hw5]
              exact HNEW.out.setRow _
            have hO5 := Lib.hid (hO4.out.below n5)
            have hB6 := Lib.hid (hB5.out.below n5)
            have hN5 : Hid (NewMem w w5) := below_then hN4.out n5 (Nat.le_refl _)
            clear hw5 HNEW n5 hO4 hB5 hN4
            go_still_tail 2, (by kernel_rfl)
            change wpList _ _ _ _ _ w5.drew
            generalize hw6 : w5.drew = w6
            have n6 : NewMem w5 w6 := by rw [← hw6]; exact (NewMem.refl _).drew
            have U6 := Lib.hid (U5.out.below n6)
            have hO6 := Lib.hid (hO5.out.below n6)
            have hB7 := Lib.hid (hB6.out.below n6)
            have hN6 : Hid (NewMem w w6) := below_then hN5.out n6 (Nat.le_refl _)
            clear hw6 n6 U5 hO5 hB6 hN5
            go_wp2_with fail
            refine (rsum_calls (some ⟨w6.heap.size, 0, none⟩) [xorB kb 92, u] 2 _ (fun _ => True) (rdl_two_eq _ ((rd_blk hO6.out).mono fun _ _ _ => trivial) (by rw [HO0 ()]; omega) ((rd_blk U6.out).mono fun _ _ _ => trivial) (by rw [HUL ()]; omega) rfl (HO0 ()).symm (HUL ()).symm) ((HG.out.belowB hN6.out fun k hk => by subst hk; exact HG0).alloc _) (by simp [HO0 (), HUL ()]) (by simp)).mono ?_
            rintro e w7 ⟨rfl, hb7⟩
            have hN7 : NewMem w w7 := below_then (hN6.out.more _) hb7 (Nat.le_refl _)
            have H7 := Lib.hid ((hB7.out.alloc _).below hb7)
            rw [show [xorB kb 92, u].flatten = xorB kb 92 ++ u from by simp]
            have hzl := sha_length (xorB kb 92 ++ u)
            generalize sha (xorB kb 92 ++ u) = z at *
            have hzs : (bc z).toArray.size = 32 := by simp [hzl]
            have HZS := fun _ : Unit => hzs
            clear hzs hzl hb7 U6 hO6 hB7 hN6
            go_wp2_with (refine wpList_store_row rfl 31 _ _ rfl w.heap.size (bc z).toArray rfl rfl 31 _ H7.out (by rw [HZS ()]; kernel_rfl) (by rw [HZS ()]; rfl) (bc_all _) ?_)
            refine bodyPost_ret (results_cell_row rfl _ _ w.heap.size 31 (bc z).toArray (0, 0) _ rfl (H7.out.setRow _) Tryd.underlying31 rfl (by rw [HZS ()]; kernel_rfl)) rfl ?_
            exact ⟨by rw [HM ()], below_setRow_own hN7 (Nat.le_refl _) _⟩
end Go.Proofs.YtbhaekdfpfncnaaDoor
