/- drawbridgeref05.step: the state behind 64 bytes. -/
import Derived.Test.YtbhaekdfpfncnaaDoorR5A
import Derived.Test.YtbhaekdfpfncnaaDoorHkB
import Derived.Test.YtbhaekdfpfncnaaDoorHkE
import Derived.StillTailTactics
import Derived.BigRegion
import Derived.BigQuiet
import Derived.Deep.QuietTactic
namespace Go.Proofs.YtbhaekdfpfncnaaDoor
set_option linter.unusedVariables false
set_option linter.unusedSimpArgs false
open Go.RowKit

theorem glb_cell {w : World} (h : Glb w) (n kk : Nat) (hn : n < 64) (hk : kk = rkL.getD n 0) : w.cell? ⟨0, n, none⟩ = some (.int .u32 (kk : Int)) := by
  have hl : rkL.length = 64 := rfl
  unfold Glb at h
  generalize rkL = L at *
  have h1 := uw_get L n (by omega)
  have e : L[n]'(by omega) = kk := by rw [hk, List.getD_eq_getElem?_getD, List.getElem?_eq_getElem (by omega)]; rfl
  rw [e] at h1
  obtain ⟨ad, e, _, h2⟩ := h n _ h1
  injection e with e
  subst e
  rwa [Addr.add_lit, Nat.zero_add] at h2
theorem turn_still (x n : Nat) (w : World) (hx : x < 4294967296) (hn : n ≤ 32) :
    Calls Tryd.prog 86 #[.int .u32 (x : Int), .int .u64 (n : Int)] w fun e w' => e = .returned (.int .u32 (rotr x n : Int)) ∧ w' = w := (turn_calls x n w hx hn).mono fun _ _ h => ⟨h.1, h.2.symm⟩

set_option maxHeartbeats 8000000 in
set_option maxRecDepth 4000 in
theorem step_calls (s : S8) (hs : s.ok) (A : Option Addr) (b : List UInt8) (hb : b.length = 64) (c : Nat) (w : World) (F : Nat → Prop) (hr : Rd w F A (bc b)) (hG : Glb w) :
    Calls Tryd.prog 81 #[.agg (ua s.l), .slice A 64 c] w fun e w' => e = .returned (.agg (ua (blkF s b).l)) ∧ Below w.heap.size w w' := by
  have HR := Lib.hid (hr.mono (F' := fun k => k < w.heap.size) fun k hk _ => hk)
  have HG := Lib.hid hG
  have HB := fun _ : Unit => hb
  have HG0 := glb_pos hG
  obtain ⟨ba, off, rfl, hba, _⟩ := HR.out.form (by rw [bc_length]; omega)
  clear hr hG hb
  go_enter Tryd.func81, Tryd.ntmps81
  go_wp2_with fail
  generalize hw0 : World.alloc (World.alloc (World.alloc w _) _) _ = w0
  have z0 : Hid (Blk w0 w.heap.size 80 (ua s.l)) := by
    show Blk _ _ _ _
    rw [← hw0]
    exact ((Blk.new _ _ _).alloc _).alloc _
  have z1 : Hid (Blk w0 (w.heap.size + 1) 80 (ua (List.replicate 8 0))) := by
    show Blk _ _ _ _
    rw [← hw0]
    exact (Blk.newAt _ _ (by simp)).alloc _
  have z2 : Hid (Blk w0 (w.heap.size + 2) 91 (ua (midW b 0 0))) := by
    show Blk _ _ _ _
    rw [← hw0]
    exact Blk.newAt _ _ (by simp)
  have zn : NewMem w w0 := by
    rw [← hw0]
    exact ((NewMem.alloc _ _).more _).more _
  clear hw0
  go_loopw [6] (fun i wr => ∃ n : Nat, n ≤ 16 ∧ i = .int .i64 n ∧ Hid (Blk wr (w.heap.size + 2) 91 (ua (midW b n 0))) ∧ Hid (Blk wr w.heap.size 80 (ua s.l)) ∧ Hid (Blk wr (w.heap.size + 1) 80 (ua (List.replicate 8 0))) ∧ Below w.heap.size w wr) (fun i _ => 16 - (intOf i).toNat)
  case atStart => exact ⟨0, by omega, rfl, z2, z0, z1, zn⟩
  case round =>
    clear z0 z1 z2 zn
    obtain ⟨n, hn, rfl, hW, hS, hZ, hbel⟩ := hrel
    by_cases hlt : n < 16
    · have hcl : ∀ j, j < 64 → ∃ y : UInt8, wr.cell? ⟨ba, off + j, none⟩ = some (.int .u8 (y.toNat : Int)) ∧ y = b.getD j 0 := fun j hj => by
        obtain ⟨ad, e, hc⟩ := (HR.out.belowB hbel fun k hk => hk).at_ (j := j) (by rw [HB ()]; exact hj)
        injection e with e
        subst e
        rw [Addr.add_lit] at hc
        exact ⟨_, hc, by rw [List.getD_eq_getElem?_getD, List.getElem?_eq_getElem]; rfl⟩
      obtain ⟨y0, c0, e0⟩ := hcl (4 * n) (by omega)
      obtain ⟨y1, c1, e1⟩ := hcl (4 * n + 1) (by omega)
      obtain ⟨y2, c2, e2⟩ := hcl (4 * n + 2) (by omega)
      obtain ⟨y3, c3, e3⟩ := hcl (4 * n + 3) (by omega)
      have hwd : wrd b n = ((y0.toNat * 256 + y1.toNat) * 256 + y2.toNat) * 256 + y3.toNat := by rw [e0, e1, e2, e3]; rfl
      have l0 := y0.toNat_lt
      have l1 := y1.toNat_lt
      have l2 := y2.toNat_lt
      have l3 := y3.toNat_lt
      have cw := (hW.out.cell n).trans (ua_get _ n (by rw [midW_length _ _ _ (by omega)]; omega))
      have fw := hW.out.frozen n
      have HWD := fun _ : Unit => hwd
      clear hcl e0 e1 e2 e3 hwd
      go_wp2_with fail
      have q0 : IntKind.i64.wrap (4 * (n : Int)) = 4 * (n : Int) := IntWalk.i64_in _ ⟨by omega, by omega⟩
      have q1 : IntKind.i64.wrap (4 * (n : Int) + 1) = 4 * (n : Int) + 1 := IntWalk.i64_in _ ⟨by omega, by omega⟩
      have q2 : IntKind.i64.wrap (4 * (n : Int) + 2) = 4 * (n : Int) + 2 := IntWalk.i64_in _ ⟨by omega, by omega⟩
      have q3 : IntKind.i64.wrap (4 * (n : Int) + 3) = 4 * (n : Int) + 3 := IntWalk.i64_in _ ⟨by omega, by omega⟩
      have m0 : (4 * (n : Int)).toNat = 4 * n := by omega
      have m1 : (4 * (n : Int) + 1).toNat = 4 * n + 1 := by omega
      have m2 : (4 * (n : Int) + 2).toNat = 4 * n + 2 := by omega
      have m3 : (4 * (n : Int) + 3).toNat = 4 * n + 3 := by omega
      have hw32 : ∀ x : Int, IntKind.u32.wrap x = x % 4294967296 := fun x => by simp [IntKind.wrap, IntKind.signed, IntKind.bits]
      have p0 : 4 * (n : Int) < 64 := by omega
      have p1 : 4 * (n : Int) + 1 < 64 := by omega
      have p2 : 4 * (n : Int) + 2 < 64 := by omega
      have p3 : 4 * (n : Int) + 3 < 64 := by omega
      have r0 : 0 ≤ 4 * (n : Int) := by omega
      have r1 : 0 ≤ 4 * (n : Int) + 1 := by omega
      have r2 : 0 ≤ 4 * (n : Int) + 2 := by omega
      have r3 : 0 ≤ 4 * (n : Int) + 3 := by omega
      have pn : (n : Int) < 64 := by omega
      have rn : 0 ≤ (n : Int) := by omega
      refine wp_region_still_tail 35 (by as_aux_lemma => kernel_rfl) (by as_aux_lemma => kernel_rfl) ?_
      simp only [List.take_succ_cons, List.take_zero, List.drop_succ_cons, List.drop_zero]
      repeat still_step
      try refine wpStill_nil ?_
      change wpList _ _ _ _ _ wr.drew
      clear q0 q1 q2 q3 m0 m1 m2 m3 p0 p1 p2 p3 r0 r1 r2 r3 pn rn hw32
      go_wp2
      go_roundw
      case rel =>
        refine ⟨n + 1, by omega, by go_num, ?_, hS.out.far (by show _ ≠ w.heap.size + 1 + 1; omega) _, hZ.out.far (by show _ ≠ w.heap.size + 1 + 1; omega) _, (hbel.setCell (p := ⟨w.heap.size + 1 + 1, n, none⟩) (by simp; omega) _).drew⟩
        have h1 := hW.out.set_ n (.int .u32 ((wrd b n : Nat) : Int))
        rw [ua_set, midW_set, midW_next b n (by omega) (wrd b n) (by show wl b n ++ [_] = _; rw [if_pos hlt])] at h1
        rw [show ((y0.toNat : Int) % 4294967296 * 16777216 + (y1.toNat : Int) % 4294967296 * 65536 + (y2.toNat : Int) % 4294967296 * 256 + (y3.toNat : Int)) % 4294967296 = ((wrd b n : Nat) : Int) from by rw [HWD ()]; omega]
        exact h1
      case measure => simp [intOf]; omega
    · have hn16 : n = 16 := by omega
      subst hn16
      rw [show ((16 : Nat) : Int) = (16 : Int) from rfl]
      go_wp2_with fail
      go_loopw [7, 8, 9] (fun i x y wr => ∃ n : Nat, 16 ≤ n ∧ n ≤ 64 ∧ i = .int .i64 n ∧ Hid (n < 64 → Blk wr (w.heap.size + 2) 91 (ua (midW b n 0))) ∧ Hid (n = 64 → Blk wr (w.heap.size + 2) 91 (ua (wl b 64))) ∧ Hid (Blk wr w.heap.size 80 (ua s.l)) ∧ Hid (Blk wr (w.heap.size + 1) 80 (ua (List.replicate 8 0))) ∧ Below w.heap.size w wr) (fun i _ _ _ => 64 - (intOf i).toNat)
      case atStart => exact ⟨16, by omega, by omega, rfl, fun _ => hW.out, fun h => by omega, hS, hZ, hbel⟩
      case round =>
        clear hW hS hZ hbel
        obtain ⟨n, hn0, hn, rfl, hW, hW64, hS, hZ, hbel⟩ := hrel
        by_cases hlt : n < 64
        · have hA := hW.out hlt
          clear hW hW64
          obtain ⟨x15, h15⟩ : ∃ x, x = (wl b n).getD (n - 15) 0 := ⟨_, rfl⟩
          obtain ⟨x2, h2⟩ : ∃ x, x = (wl b n).getD (n - 2) 0 := ⟨_, rfl⟩
          obtain ⟨x16, h16⟩ : ∃ x, x = (wl b n).getD (n - 16) 0 := ⟨_, rfl⟩
          obtain ⟨x7, h7⟩ : ∃ x, x = (wl b n).getD (n - 7) 0 := ⟨_, rfl⟩
          have l15 : x15 < 4294967296 := by rw [h15]; exact wl_lt _ _ _
          have l2 : x2 < 4294967296 := by rw [h2]; exact wl_lt _ _ _
          have l16 : x16 < 4294967296 := by rw [h16]; exact wl_lt _ _ _
          have l7 : x7 < 4294967296 := by rw [h7]; exact wl_lt _ _ _
          have hm : ∀ i, 0 < i ∧ i ≤ 16 → ∀ x, (ua (midW b n x))[n - i]? = some (.int .u32 (((wl b n).getD (n - i) 0 : Nat) : Int)) := fun i hi x => by
            have := ua_get (midW b n x) (n - i) (by rw [midW_length _ _ _ hlt]; omega)
            rwa [midW_old _ _ _ _ (by omega)] at this
          have hc15 := (hA.cell (n - 15)).trans (hm 15 (by omega) 0)
          have hc2 := (hA.cell (n - 2)).trans (hm 2 (by omega) 0)
          have hc16 := (hA.cell (n - 16)).trans (hm 16 (by omega) 0)
          have hc7 := (hA.cell (n - 7)).trans (hm 7 (by omega) 0)
          have hcn := (hA.cell n).trans (ua_get _ n (by rw [midW_length _ _ _ hlt]; exact hlt))
          have hfn := hA.frozen n
          rw [midW_get] at hcn
          rw [← h15] at hc15
          rw [← h2] at hc2
          rw [← h16] at hc16
          rw [← h7] at hc7
          obtain ⟨y, hy⟩ : ∃ y, y = (x16 + x7 + sg0 x15 + sg1 x2) % 4294967296 := ⟨_, rfl⟩
          have hnx : wl b (n + 1) = wl b n ++ [y] := by show wl b n ++ [_] = _; rw [if_neg (by omega), ← h15, ← h2, ← h16, ← h7, ← hy]
          have HNX := fun _ : Unit => hnx
          have HA := Lib.hid hA
          clear hm hA hnx h15 h2 h16 h7
          have q15 : IntKind.i64.wrap ((n : Int) - 15) = (n : Int) - 15 := IntWalk.i64_in _ ⟨by omega, by omega⟩
          have q2 : IntKind.i64.wrap ((n : Int) - 2) = (n : Int) - 2 := IntWalk.i64_in _ ⟨by omega, by omega⟩
          have q16 : IntKind.i64.wrap ((n : Int) - 16) = (n : Int) - 16 := IntWalk.i64_in _ ⟨by omega, by omega⟩
          have q7 : IntKind.i64.wrap ((n : Int) - 7) = (n : Int) - 7 := IntWalk.i64_in _ ⟨by omega, by omega⟩
          have i15 : (15 : Int) ≤ (n : Int) := by omega
          have i2 : (2 : Int) ≤ (n : Int) := by omega
          have i16 : (16 : Int) ≤ (n : Int) := by omega
          have i7 : (7 : Int) ≤ (n : Int) := by omega
          have j15 : (n : Int) - 15 < 64 := by omega
          have j2 : (n : Int) - 2 < 64 := by omega
          have j16 : (n : Int) - 16 < 64 := by omega
          have j7 : (n : Int) - 7 < 64 := by omega
          have t15 : ((n : Int) - 15).toNat = n - 15 := by omega
          have t2 : ((n : Int) - 2).toNat = n - 2 := by omega
          have t16 : ((n : Int) - 16).toNat = n - 16 := by omega
          have t7 : ((n : Int) - 7).toNat = n - 7 := by omega
          have r1 := rotr_lt x15 7 l15
          have r2 := rotr_lt x15 18 l15
          have r3 := rotr_lt x2 17 l2
          have r4 := rotr_lt x2 19 l2
          have r5 : rotr x15 7 ^^^ rotr x15 18 < 4294967296 := Nat.xor_lt_two_pow (n := 32) r1 r2
          have r6 : rotr x2 17 ^^^ rotr x2 19 < 4294967296 := Nat.xor_lt_two_pow (n := 32) r3 r4
          have k1 := u32_xor_nat _ _ r1 r2
          have k2 : bits .xor .u32 ((rotr x15 7 ^^^ rotr x15 18 : Nat) : Int) ((x15 : Int) / 8) = ((sg0 x15 : Nat) : Int) := u32_xor_nat _ (x15 / 8) r5 (by omega)
          have k3 := u32_xor_nat _ _ r3 r4
          have k4 : bits .xor .u32 ((rotr x2 17 ^^^ rotr x2 19 : Nat) : Int) ((x2 : Int) / 1024) = ((sg1 x2 : Nat) : Int) := u32_xor_nat _ (x2 / 1024) r6 (by omega)
          have hyi : (((sg1 x2 : Nat) : Int) + (x7 : Int) + ((sg0 x15 : Nat) : Int) + (x16 : Int)) % 4294967296 = (y : Int) := by rw [hy]; omega
          clear hy r5 r6
          generalize sg0 x15 = z0 at k2 hyi
          generalize sg1 x2 = z1 at k4 hyi
          generalize (rotr x15 7 ^^^ rotr x15 18) = q0 at k1 k2
          generalize (rotr x2 17 ^^^ rotr x2 19) = q1 at k3 k4
          have cc1 := fun W : World => turn_still x15 7 W l15 (by omega)
          have cc2 := fun W : World => turn_still x15 18 W l15 (by omega)
          have cc3 := fun W : World => turn_still x2 17 W l2 (by omega)
          have cc4 := fun W : World => turn_still x2 19 W l2 (by omega)
          generalize rotr x15 7 = p1 at *
          generalize rotr x15 18 = p2 at *
          generalize rotr x2 17 = p3 at *
          generalize rotr x2 19 = p4 at *
          have hw32 : ∀ x : Int, IntKind.u32.wrap x = x % 4294967296 := fun x => by simp [IntKind.wrap, IntKind.signed, IntKind.bits]
          have pn : (n : Int) < 64 := by omega
          have rn : 0 ≤ (n : Int) := by omega
          go_wp2_with fail
          go_quiet (fail)
          generalize hw2 : World.drewN wr _ = w2
          have hc16 : w2.cell? ⟨w.heap.size + 2, n - 16, none⟩ = some (.int .u32 (x16 : Int)) := by rw [← hw2]; exact hc16
          have hc7 : w2.cell? ⟨w.heap.size + 2, n - 7, none⟩ = some (.int .u32 (x7 : Int)) := by rw [← hw2]; exact hc7
          have hcn : w2.cell? ⟨w.heap.size + 2, n, none⟩ = some (.int .u32 ((0 : Nat) : Int)) := by rw [← hw2]; exact hcn
          have hfn : w2.frozen? ⟨w.heap.size + 2, n, none⟩ = false := by rw [← hw2]; exact hfn
          have hwr2 : Fr (fun _ => False) wr w2 := by rw [← hw2]; exact (Fr.refl _ _).drewN _
          clear hw2
          go_wp2_with fail
          refine wp_region_still_tail 29 (by as_aux_lemma => kernel_rfl) (by as_aux_lemma => kernel_rfl) ?_
          simp only [List.take_succ_cons, List.take_zero, List.drop_succ_cons, List.drop_zero]
          repeat still_step
          try refine wpStill_nil ?_
          still_call (cc3 _)
          repeat still_step
          still_call (cc4 _)
          repeat still_step
          still_call (cc1 _)
          repeat still_step
          still_call (cc2 _)
          repeat still_step
          refine wpStill_nil ?_
          change wpList _ _ _ _ _ w2.drew
          have HA2 := Lib.hid (HA.out.keep hwr2 fun h => h)
          have HS2 := Lib.hid (hS.out.keep hwr2 fun h => h)
          have HZ2 := Lib.hid (hZ.out.keep hwr2 fun h => h)
          have hbel2 := below_fr hbel hwr2 (Nat.le_refl _) fun k _ h => h
          clear k1 k2 k3 k4 cc1 cc2 cc3 cc4 q15 q2 q16 q7 i15 i2 i16 i7 j15 j2 j16 j7 t15 t2 t16 t7 hc16 hc7 hc15 hc2 hw32 pn rn hwr2 HA hS hZ hbel
          go_wp2_with fail
          go_roundw
          case rel =>
            have h1 := HA2.out.set_ n (.int .u32 (y : Int))
            rw [ua_set, midW_set] at h1
            refine ⟨n + 1, by omega, by omega, by go_num, fun h => ?_, fun h => ?_, HS2.out.far (by show _ ≠ w.heap.size + 1 + 1; omega) _, HZ2.out.far (by show _ ≠ w.heap.size + 1 + 1; omega) _, (hbel2.setCell (p := ⟨w.heap.size + 1 + 1, n, none⟩) (by show _ ≤ w.heap.size + 1 + 1; omega) _).drew⟩
            · rw [← midW_next b n (by omega) y (HNX ())]; exact h1
            · have h63 : n = 63 := by omega
              subst h63
              have e : midW b 63 y = wl b 64 := by rw [show wl b 64 = wl b 63 ++ [y] from HNX ()]; rfl
              rw [← e]; exact h1
          case measure => simp [intOf]; omega
        · have h64 : n = 64 := by omega
          subst h64
          have hA := Lib.hid (hW64.out rfl)
          have HG2 := Lib.hid (HG.out.belowB hbel fun k hk => by subst hk; exact glb_pos HG.out)
          have hsz := hbel.size
          have hltA := hA.out.lt
          clear hW hW64 hlt hn0 hn
          rw [show ((64 : Nat) : Int) = (64 : Int) from rfl]
          go_wp2_with (first
            | (refine wpList_load_row rfl 80 _ rfl w.heap.size rfl 80 (ua s.l) (0, 0) _ hS.out Tryd.underlying80 rfl (by as_aux_lemma => kernel_rfl) ?_)
            | (refine wpList_store_row rfl 80 _ _ rfl wr.heap.size (ua s.l) rfl rfl 80 _ (heap_alloc_new wr _) (by as_aux_lemma => kernel_rfl) rfl (ua_one _) ?_; rw [World.setRow_alloc_new]))
          generalize hw3 : World.alloc wr _ = w3
          have v3 : Hid (Blk w3 wr.heap.size 80 (ua (rnds s b 0).l)) := by show Blk _ _ _ _; rw [← hw3]; exact Blk.new _ _ _
          have a3 : Hid (Blk w3 (w.heap.size + 2) 91 (ua (wl b 64))) := by show Blk _ _ _ _; rw [← hw3]; exact hA.out.alloc _
          have s3 : Hid (Blk w3 w.heap.size 80 (ua s.l)) := by show Blk _ _ _ _; rw [← hw3]; exact hS.out.alloc _
          have z3 : Hid (Blk w3 (w.heap.size + 1) 80 (ua (List.replicate 8 0))) := by show Blk _ _ _ _; rw [← hw3]; exact hZ.out.alloc _
          have g3 : Hid (Glb w3) := by show Glb _; rw [← hw3]; exact HG2.out.alloc _
          have b3 : Below w.heap.size w w3 := by rw [← hw3]; exact hbel.alloc hsz _
          obtain ⟨gv, hgv⟩ : ∃ g, g = wr.heap.size := ⟨_, rfl⟩
          rw [← hgv] at v3 hltA hsz ⊢
          clear hw3 hgv hA hS hZ HG2 hbel HG
          go_loopw [11, 12, 13, 14, 15] (fun i x1 x2 x3 x4 wr => ∃ n : Nat, n ≤ 64 ∧ i = .int .i64 n ∧ Hid (Blk wr gv 80 (ua (rnds s b n).l)) ∧ Hid (Blk wr (w.heap.size + 2) 91 (ua (wl b 64))) ∧ Hid (Blk wr w.heap.size 80 (ua s.l)) ∧ Hid (Blk wr (w.heap.size + 1) 80 (ua (List.replicate 8 0))) ∧ Hid (Glb wr) ∧ Below w.heap.size w wr) (fun i _ _ _ _ _ => 64 - (intOf i).toNat)
          case atStart => exact ⟨0, by omega, rfl, v3, a3, s3, z3, g3, b3⟩
          case round =>
            clear v3 a3 s3 z3 g3 b3
            obtain ⟨n, hn, rfl, hV, hA, hS, hZ, hG, hbel⟩ := hrel
            by_cases hlt : n < 64
            · have hvok := rnds_ok hs b n (by omega)
              have hrs := rnds_succ s b n hlt
              obtain ⟨kk, hkk⟩ : ∃ x, x = rkL.getD n 0 := ⟨_, rfl⟩
              obtain ⟨wi, hwi⟩ : ∃ x, x = (wl b 64).getD n 0 := ⟨_, rfl⟩
              have hwl := wl_lt b n 64
              have hgc := glb_cell hG.out n kk hlt hkk
              have hwc := (hA.out.cell n).trans (ua_get (wl b 64) n (by rw [wl_length]; exact hlt))
              rw [← hwi] at hwc hwl
              rw [← hkk, ← hwi] at hrs
              obtain ⟨v, hv⟩ : ∃ v, v = rnds s b n := ⟨_, rfl⟩
              rw [← hv] at hvok hrs
              have hV' := hV.out
              rw [← hv] at hV'
              have HV := Lib.hid hV'
              obtain ⟨va, vb, vc, vd, ve, vf, vg, vh⟩ := v
              obtain ⟨o1, o2, o3, o4, o5, o6, o7, o8⟩ := hvok
              simp only at o1 o2 o3 o4 o5 o6 o7 o8
              have HRS := fun _ : Unit => hrs
              clear hV hV' hrs hv hkk hwi
              have c0 : wr.cell? ⟨gv, 0, none⟩ = some (.int .u32 (va : Int)) := HV.out.cell 0
              have c4 : wr.cell? ⟨gv, 4, none⟩ = some (.int .u32 (ve : Int)) := HV.out.cell 4
              have hw32 : ∀ x : Int, IntKind.u32.wrap x = x % 4294967296 := fun x => by simp [IntKind.wrap, IntKind.signed, IntKind.bits]
              go_wp2_with fail
              go_quiet (fail)
              generalize hw2 : World.drewN wr _ = w2
              have hwr2 : Fr (fun _ => False) wr w2 := by rw [← hw2]; exact (Fr.refl _ _).drewN _
              have HV := Lib.hid (HV.out.keep hwr2 fun h => h)
              have hwc : w2.cell? ⟨w.heap.size + 2, n, none⟩ = some (.int .u32 (wi : Int)) := by rw [← hw2]; exact hwc
              have hgc : w2.cell? ⟨0, n, none⟩ = some (.int .u32 (kk : Int)) := by rw [← hw2]; exact hgc
              have hA := Lib.hid (hA.out.keep hwr2 fun h => h)
              have hS := Lib.hid (hS.out.keep hwr2 fun h => h)
              have hZ := Lib.hid (hZ.out.keep hwr2 fun h => h)
              have hG := Lib.hid (hG.out.keep hwr2 fun k _ _ h => h)
              have hbel := below_fr hbel hwr2 (Nat.le_refl _) fun k _ h => h
              clear hw2 hwr2 c0 c4
              have c1 : w2.cell? ⟨gv, 1, none⟩ = some (.int .u32 (vb : Int)) := HV.out.cell 1
              have c2 : w2.cell? ⟨gv, 2, none⟩ = some (.int .u32 (vc : Int)) := HV.out.cell 2
              have c3 : w2.cell? ⟨gv, 3, none⟩ = some (.int .u32 (vd : Int)) := HV.out.cell 3
              have c5 : w2.cell? ⟨gv, 5, none⟩ = some (.int .u32 (vf : Int)) := HV.out.cell 5
              have c6 : w2.cell? ⟨gv, 6, none⟩ = some (.int .u32 (vg : Int)) := HV.out.cell 6
              have c7 : w2.cell? ⟨gv, 7, none⟩ = some (.int .u32 (vh : Int)) := HV.out.cell 7
              obtain ⟨p1, hp1⟩ : ∃ p, p = rotr ve 6 := ⟨_, rfl⟩
              obtain ⟨p2, hp2⟩ : ∃ p, p = rotr ve 11 := ⟨_, rfl⟩
              obtain ⟨p3, hp3⟩ : ∃ p, p = rotr ve 25 := ⟨_, rfl⟩
              have r1 := rotr_lt ve 6 o5
              have r2 := rotr_lt ve 11 o5
              have r3 := rotr_lt ve 25 o5
              obtain ⟨q1, hq1⟩ : ∃ q, q = rotr ve 6 ^^^ rotr ve 11 := ⟨_, rfl⟩
              obtain ⟨q2, hq2⟩ : ∃ q, q = bs1 ve := ⟨_, rfl⟩
              obtain ⟨q3, hq3⟩ : ∃ q, q = ve &&& vf := ⟨_, rfl⟩
              obtain ⟨q4, hq4⟩ : ∃ q, q = 4294967295 - ve := ⟨_, rfl⟩
              obtain ⟨q5, hq5⟩ : ∃ q, q = (4294967295 - ve) &&& vg := ⟨_, rfl⟩
              obtain ⟨q6, hq6⟩ : ∃ q, q = chs ve vf vg := ⟨_, rfl⟩
              obtain ⟨t, ht⟩ : ∃ t, t = (vh + q2 + q6 + kk + wi) % 4294967296 := ⟨_, rfl⟩
              have k1 : bits .xor .u32 (p1 : Int) (p2 : Int) = (q1 : Int) := by rw [hp1, hp2, hq1]; exact u32_xor_nat _ _ r1 r2
              have k2 : bits .xor .u32 (q1 : Int) (p3 : Int) = (q2 : Int) := by rw [hq1, hp3, hq2]; exact u32_xor_nat _ _ (Nat.xor_lt_two_pow (n := 32) r1 r2) r3
              have k3 : bits .and .u32 (ve : Int) (vf : Int) = (q3 : Int) := by rw [hq3]; exact u32_and_nat _ _ o5 o6
              have k4 : bits .xor .u32 4294967295 (ve : Int) = (q4 : Int) := by rw [hq4]; exact not_u32 ve o5
              have k4' : bits .xor .u32 (if IntKind.u32.signed = true then -1 else IntKind.u32.max) (ve : Int) = (q4 : Int) := k4
              have k5 : bits .and .u32 (q4 : Int) (vg : Int) = (q5 : Int) := by rw [hq4, hq5]; exact u32_and_nat _ _ (by omega) o7
              have k6 : bits .xor .u32 (q3 : Int) (q5 : Int) = (q6 : Int) := by rw [hq3, hq5, hq6]; exact u32_xor_nat _ _ (Nat.lt_of_le_of_lt Nat.and_le_left o5) (Nat.lt_of_le_of_lt Nat.and_le_right o7)
              have k7 : ((vh : Int) + (q2 : Int) + (q6 : Int) + (kk : Int) + (wi : Int)) % 4294967296 = (t : Int) := by rw [ht]; omega
              have P1 := fun _ : Unit => hp1
              have P2 := fun _ : Unit => hp2
              have P3 := fun _ : Unit => hp3
              have hltV := HV.out.lt
              have hltA := hA.out.lt
              have HG00 := glb_pos hG.out
              have Q2 := fun _ : Unit => hq2
              have Q6 := fun _ : Unit => hq6
              have HT := fun _ : Unit => ht
              clear hp1 hp2 hp3 r1 r2 r3 hq1 hq2 hq3 hq4 hq5 hq6 ht
              have pn : (n : Int) < 64 := by omega
              have rn : 0 ≤ (n : Int) := by omega
              go_wp2_with fail
              refine region_toG (T := anyT) (J := stayJ w2) anyT_trans anyT_refl () (fun vs W γ => Fr (fun _ => False) w2 W ∧ vs 30 = .int .u32 (t : Int)) (by as_aux_lemma => kernel_rfl) (by as_aux_lemma => kernel_rfl) (by as_aux_lemma => kernel_rfl) (Fr.refl _ _).drew ?_ ?_
              · refine ⟨prOfG [.is (.pointer (some ⟨gv, 7, none⟩)), .isU vh, .isU ve, .isU p1, .isU ve, .isU p2, .isU q1, .isU ve, .isU p3, .isU q2, .is (.int .u32 (((vh : Int) + (q2 : Int)) % 4294967296)), .isU ve, .is (.pointer (some ⟨gv, 5, none⟩)), .isU vf, .isU q3, .isU ve, .isU q4, .is (.pointer (some ⟨gv, 6, none⟩)), .isU vg, .isU q5, .isU q6, .is (.int .u32 (((vh : Int) + (q2 : Int) + (q6 : Int)) % 4294967296)), .is (.int .i64 (n : Int)), .is (.pointer (some ⟨0, n, none⟩)), .isU kk, .is (.int .u32 (((vh : Int) + (q2 : Int) + (q6 : Int) + (kk : Int)) % 4294967296)), .is (.int .i64 (n : Int)), .is (.pointer (some ⟨w.heap.size + 2, n, none⟩)), .isU wi, .isU t, .isU t], prOfG_st _, no_none (by as_aux_lemma => kernel_rfl), ⟨?_, ?_, ?_, ?_, ?_, ?_, ?_, ?_, ?_, ?_, ?_, ?_, ?_, ?_, ?_, ?_, ?_, ?_, ?_, ?_, ?_, ?_, ?_, ?_, ?_, ?_, ?_, ?_, ?_, ?_, ?_, trivial⟩, fun vs W γ hT hJ hp => ⟨hJ, hp 30 rfl⟩⟩
                · refine owes_plainG rfl fun dn a W γ hT hdn hdp hJ hf hd => ?_
                  have e10 := hf 10 rfl
                  exact step_val (w' := W) (by simp only [execOp]; go_simp) ⟨γ, anyT_refl _ _, stayJ_same (by decide) hJ, rfl⟩
                · refine owes_plainG rfl fun dn a W γ hT hdn hdp hJ hf hd => ?_
                  obtain ⟨v0, e0, rfl⟩ := hd 0 rfl
                  have hcw := (Fr.cell hJ hltV (fun h => h)).trans c7
                  exact step_val (w' := W) (by simp only [execOp]; go_simp) ⟨γ, anyT_refl _ _, hJ, rfl⟩
                · refine owes_plainG rfl fun dn a W γ hT hdn hdp hJ hf hd => ?_
                  have e13 := hf 13 rfl
                  exact step_val (w' := W) (by simp only [execOp]; go_simp) ⟨γ, anyT_refl _ _, stayJ_same (by decide) hJ, rfl⟩
                · refine owes_plainG rfl fun dn a W γ hT hdn hdp hJ hf hd => ?_
                  obtain ⟨v0, e0, rfl⟩ := hd 2 rfl
                  refine step_call (w' := W) (f := 86) (args := #[.int .u32 (ve : Int), .int .u64 (6 : Int)]) (by simp only [execOp]; go_simp) ?_
                  refine (turn_calls ve 6 W o5 (by omega)).mono ?_
                  rintro e w' ⟨rfl, rfl⟩
                  exact ⟨_, rfl, γ, anyT_refl _ _, hJ, by rw [← P1 ()]; rfl⟩
                · refine owes_plainG rfl fun dn a W γ hT hdn hdp hJ hf hd => ?_
                  have e13 := hf 13 rfl
                  exact step_val (w' := W) (by simp only [execOp]; go_simp) ⟨γ, anyT_refl _ _, stayJ_same (by decide) hJ, rfl⟩
                · refine owes_plainG rfl fun dn a W γ hT hdn hdp hJ hf hd => ?_
                  obtain ⟨v0, e0, rfl⟩ := hd 4 rfl
                  refine step_call (w' := W) (f := 86) (args := #[.int .u32 (ve : Int), .int .u64 (11 : Int)]) (by simp only [execOp]; go_simp) ?_
                  refine (turn_calls ve 11 W o5 (by omega)).mono ?_
                  rintro e w' ⟨rfl, rfl⟩
                  exact ⟨_, rfl, γ, anyT_refl _ _, hJ, by rw [← P2 ()]; rfl⟩
                · refine owes_plainG rfl fun dn a W γ hT hdn hdp hJ hf hd => ?_
                  obtain ⟨v3, e3, rfl⟩ := hd 3 rfl
                  obtain ⟨v5, e5, rfl⟩ := hd 5 rfl
                  exact step_val (w' := W) (by simp only [execOp]; go_simp) ⟨γ, anyT_refl _ _, stayJ_same (by decide) hJ, rfl⟩
                · refine owes_plainG rfl fun dn a W γ hT hdn hdp hJ hf hd => ?_
                  have e13 := hf 13 rfl
                  exact step_val (w' := W) (by simp only [execOp]; go_simp) ⟨γ, anyT_refl _ _, stayJ_same (by decide) hJ, rfl⟩
                · refine owes_plainG rfl fun dn a W γ hT hdn hdp hJ hf hd => ?_
                  obtain ⟨v0, e0, rfl⟩ := hd 7 rfl
                  refine step_call (w' := W) (f := 86) (args := #[.int .u32 (ve : Int), .int .u64 (25 : Int)]) (by simp only [execOp]; go_simp) ?_
                  refine (turn_calls ve 25 W o5 (by omega)).mono ?_
                  rintro e w' ⟨rfl, rfl⟩
                  exact ⟨_, rfl, γ, anyT_refl _ _, hJ, by rw [← P3 ()]; rfl⟩
                · refine owes_plainG rfl fun dn a W γ hT hdn hdp hJ hf hd => ?_
                  obtain ⟨v6, e6, rfl⟩ := hd 6 rfl
                  obtain ⟨v8, e8, rfl⟩ := hd 8 rfl
                  exact step_val (w' := W) (by simp only [execOp]; go_simp) ⟨γ, anyT_refl _ _, stayJ_same (by decide) hJ, rfl⟩
                · refine owes_plainG rfl fun dn a W γ hT hdn hdp hJ hf hd => ?_
                  obtain ⟨v1, e1, rfl⟩ := hd 1 rfl
                  obtain ⟨v9, e9, rfl⟩ := hd 9 rfl
                  exact step_val (w' := W) (by simp only [execOp]; go_simp) ⟨γ, anyT_refl _ _, stayJ_same (by decide) hJ, rfl⟩
                · refine owes_plainG rfl fun dn a W γ hT hdn hdp hJ hf hd => ?_
                  have e13 := hf 13 rfl
                  exact step_val (w' := W) (by simp only [execOp]; go_simp) ⟨γ, anyT_refl _ _, stayJ_same (by decide) hJ, rfl⟩
                · refine owes_plainG rfl fun dn a W γ hT hdn hdp hJ hf hd => ?_
                  have e10 := hf 10 rfl
                  exact step_val (w' := W) (by simp only [execOp]; go_simp) ⟨γ, anyT_refl _ _, stayJ_same (by decide) hJ, rfl⟩
                · refine owes_plainG rfl fun dn a W γ hT hdn hdp hJ hf hd => ?_
                  obtain ⟨v0, e0, rfl⟩ := hd 12 rfl
                  have hcw := (Fr.cell hJ hltV (fun h => h)).trans c5
                  exact step_val (w' := W) (by simp only [execOp]; go_simp) ⟨γ, anyT_refl _ _, hJ, rfl⟩
                · refine owes_plainG rfl fun dn a W γ hT hdn hdp hJ hf hd => ?_
                  obtain ⟨v11, e11, rfl⟩ := hd 11 rfl
                  obtain ⟨v13, e13, rfl⟩ := hd 13 rfl
                  exact step_val (w' := W) (by simp only [execOp]; go_simp) ⟨γ, anyT_refl _ _, stayJ_same (by decide) hJ, rfl⟩
                · refine owes_plainG rfl fun dn a W γ hT hdn hdp hJ hf hd => ?_
                  have e13 := hf 13 rfl
                  exact step_val (w' := W) (by simp only [execOp]; go_simp) ⟨γ, anyT_refl _ _, stayJ_same (by decide) hJ, rfl⟩
                · refine owes_plainG rfl fun dn a W γ hT hdn hdp hJ hf hd => ?_
                  obtain ⟨v15, e15, rfl⟩ := hd 15 rfl
                  exact step_val (w' := W) (by simp only [execOp]; go_simp) ⟨γ, anyT_refl _ _, stayJ_same (by decide) hJ, rfl⟩
                · refine owes_plainG rfl fun dn a W γ hT hdn hdp hJ hf hd => ?_
                  have e10 := hf 10 rfl
                  exact step_val (w' := W) (by simp only [execOp]; go_simp) ⟨γ, anyT_refl _ _, stayJ_same (by decide) hJ, rfl⟩
                · refine owes_plainG rfl fun dn a W γ hT hdn hdp hJ hf hd => ?_
                  obtain ⟨v0, e0, rfl⟩ := hd 17 rfl
                  have hcw := (Fr.cell hJ hltV (fun h => h)).trans c6
                  exact step_val (w' := W) (by simp only [execOp]; go_simp) ⟨γ, anyT_refl _ _, hJ, rfl⟩
                · refine owes_plainG rfl fun dn a W γ hT hdn hdp hJ hf hd => ?_
                  obtain ⟨v16, e16, rfl⟩ := hd 16 rfl
                  obtain ⟨v18, e18, rfl⟩ := hd 18 rfl
                  exact step_val (w' := W) (by simp only [execOp]; go_simp) ⟨γ, anyT_refl _ _, stayJ_same (by decide) hJ, rfl⟩
                · refine owes_plainG rfl fun dn a W γ hT hdn hdp hJ hf hd => ?_
                  obtain ⟨v14, e14, rfl⟩ := hd 14 rfl
                  obtain ⟨v19, e19, rfl⟩ := hd 19 rfl
                  exact step_val (w' := W) (by simp only [execOp]; go_simp) ⟨γ, anyT_refl _ _, stayJ_same (by decide) hJ, rfl⟩
                · refine owes_plainG rfl fun dn a W γ hT hdn hdp hJ hf hd => ?_
                  obtain ⟨v10, e10, rfl⟩ := hd 10 rfl
                  obtain ⟨v20, e20, rfl⟩ := hd 20 rfl
                  exact step_val (w' := W) (by simp only [execOp]; go_simp) ⟨γ, anyT_refl _ _, stayJ_same (by decide) hJ, rfl⟩
                · refine owes_plainG rfl fun dn a W γ hT hdn hdp hJ hf hd => ?_
                  have e11 := hf 11 rfl
                  exact step_val (w' := W) (by simp only [execOp]; go_simp) ⟨γ, anyT_refl _ _, stayJ_same (by decide) hJ, rfl⟩
                · refine owes_plainG rfl fun dn a W γ hT hdn hdp hJ hf hd => ?_
                  obtain ⟨v22, e22, rfl⟩ := hd 22 rfl
                  exact step_val (w' := W) (by simp only [execOp]; go_simp) ⟨γ, anyT_refl _ _, stayJ_same (by decide) hJ, rfl⟩
                · refine owes_plainG rfl fun dn a W γ hT hdn hdp hJ hf hd => ?_
                  obtain ⟨v0, e0, rfl⟩ := hd 23 rfl
                  have hcw := (Fr.cell hJ HG00 (fun h => h)).trans hgc
                  exact step_val (w' := W) (by simp only [execOp]; go_simp) ⟨γ, anyT_refl _ _, hJ, rfl⟩
                · refine owes_plainG rfl fun dn a W γ hT hdn hdp hJ hf hd => ?_
                  obtain ⟨v21, e21, rfl⟩ := hd 21 rfl
                  obtain ⟨v24, e24, rfl⟩ := hd 24 rfl
                  exact step_val (w' := W) (by simp only [execOp]; go_simp) ⟨γ, anyT_refl _ _, stayJ_same (by decide) hJ, rfl⟩
                · refine owes_plainG rfl fun dn a W γ hT hdn hdp hJ hf hd => ?_
                  have e11 := hf 11 rfl
                  exact step_val (w' := W) (by simp only [execOp]; go_simp) ⟨γ, anyT_refl _ _, stayJ_same (by decide) hJ, rfl⟩
                · refine owes_plainG rfl fun dn a W γ hT hdn hdp hJ hf hd => ?_
                  have e5 := hf 5 rfl
                  obtain ⟨v26, e26, rfl⟩ := hd 26 rfl
                  exact step_val (w' := W) (by simp only [execOp]; go_simp) ⟨γ, anyT_refl _ _, stayJ_same (by decide) hJ, rfl⟩
                · refine owes_plainG rfl fun dn a W γ hT hdn hdp hJ hf hd => ?_
                  obtain ⟨v0, e0, rfl⟩ := hd 27 rfl
                  have hcw := (Fr.cell hJ hltA (fun h => h)).trans hwc
                  exact step_val (w' := W) (by simp only [execOp]; go_simp) ⟨γ, anyT_refl _ _, hJ, rfl⟩
                · refine owes_plainG rfl fun dn a W γ hT hdn hdp hJ hf hd => ?_
                  obtain ⟨v25, e25, rfl⟩ := hd 25 rfl
                  obtain ⟨v28, e28, rfl⟩ := hd 28 rfl
                  exact step_val (w' := W) (by simp only [execOp]; go_simp) ⟨γ, anyT_refl _ _, stayJ_same (by decide) hJ, rfl⟩
                · refine owes_plainG rfl fun dn a W γ hT hdn hdp hJ hf hd => ?_
                  obtain ⟨v29, e29, rfl⟩ := hd 29 rfl
                  exact step_val (w' := W) (by simp only [execOp]; go_simp) ⟨γ, anyT_refl _ _, stayJ_same (by decide) hJ, rfl⟩
              rintro vs w3 γ _ ⟨hwr3, hlast⟩
              simp only [laid, Nat.reduceAdd, hlast]
              clear hlast
              have HV := Lib.hid (HV.out.keep hwr3 fun h => h)
              have hA := Lib.hid (hA.out.keep hwr3 fun h => h)
              have hS := Lib.hid (hS.out.keep hwr3 fun h => h)
              have hZ := Lib.hid (hZ.out.keep hwr3 fun h => h)
              have hG := Lib.hid (hG.out.keep hwr3 fun k _ _ h => h)
              have hbel := below_fr hbel hwr3 (Nat.le_refl _) fun k _ h => h
              clear hwr3 k1 k2 k3 k4 k4' k5 k6 k7 c1 c2 c3 c5 c6 c7 hwc hgc P1 P2 P3 hltV hltA HG00
              have c1 : w3.cell? ⟨gv, 1, none⟩ = some (.int .u32 (vb : Int)) := HV.out.cell 1
              have c2 : w3.cell? ⟨gv, 2, none⟩ = some (.int .u32 (vc : Int)) := HV.out.cell 2
              have r1 := rotr_lt va 2 o1
              have r2 := rotr_lt va 13 o1
              have r3 := rotr_lt va 22 o1
              obtain ⟨m1, hm1⟩ : ∃ q, q = rotr va 2 ^^^ rotr va 13 := ⟨_, rfl⟩
              obtain ⟨m2, hm2⟩ : ∃ q, q = bs0 va := ⟨_, rfl⟩
              obtain ⟨m3, hm3⟩ : ∃ q, q = va &&& vb := ⟨_, rfl⟩
              obtain ⟨m4, hm4⟩ : ∃ q, q = va &&& vc := ⟨_, rfl⟩
              obtain ⟨m5, hm5⟩ : ∃ q, q = (va &&& vb) ^^^ (va &&& vc) := ⟨_, rfl⟩
              obtain ⟨m6, hm6⟩ : ∃ q, q = vb &&& vc := ⟨_, rfl⟩
              obtain ⟨m7, hm7⟩ : ∃ q, q = mjr va vb vc := ⟨_, rfl⟩
              obtain ⟨p1, hp1⟩ : ∃ p, p = rotr va 2 := ⟨_, rfl⟩
              obtain ⟨p2, hp2⟩ : ∃ p, p = rotr va 13 := ⟨_, rfl⟩
              obtain ⟨p3, hp3⟩ : ∃ p, p = rotr va 22 := ⟨_, rfl⟩
              obtain ⟨uu, huu⟩ : ∃ u, u = (m2 + m7) % 4294967296 := ⟨_, rfl⟩
              have l3 : m3 < 4294967296 := by rw [hm3]; exact Nat.lt_of_le_of_lt Nat.and_le_left o1
              have l4 : m4 < 4294967296 := by rw [hm4]; exact Nat.lt_of_le_of_lt Nat.and_le_left o1
              have l6 : m6 < 4294967296 := by rw [hm6]; exact Nat.lt_of_le_of_lt Nat.and_le_left o2
              have k1 : bits .xor .u32 (p1 : Int) (p2 : Int) = (m1 : Int) := by rw [hm1, hp1, hp2]; exact u32_xor_nat _ _ r1 r2
              have k2 : bits .xor .u32 (m1 : Int) (p3 : Int) = (m2 : Int) := by rw [hm1, hm2, hp3]; exact u32_xor_nat _ _ (Nat.xor_lt_two_pow (n := 32) r1 r2) r3
              have k3 : bits .and .u32 (va : Int) (vb : Int) = (m3 : Int) := by rw [hm3]; exact u32_and_nat _ _ o1 o2
              have k4 : bits .and .u32 (va : Int) (vc : Int) = (m4 : Int) := by rw [hm4]; exact u32_and_nat _ _ o1 o3
              have k5 : bits .xor .u32 (m3 : Int) (m4 : Int) = (m5 : Int) := by rw [hm5, ← hm3, ← hm4]; exact u32_xor_nat _ _ l3 l4
              have k6 : bits .and .u32 (vb : Int) (vc : Int) = (m6 : Int) := by rw [hm6]; exact u32_and_nat _ _ o2 o3
              have k7 : bits .xor .u32 (m5 : Int) (m6 : Int) = (m7 : Int) := by rw [hm7, hm5, hm6]; exact u32_xor_nat _ _ (by rw [← hm3, ← hm4]; exact Nat.xor_lt_two_pow (n := 32) l3 l4) (by rw [← hm6]; exact l6)
              have k8 : ((m2 : Int) + (m7 : Int)) % 4294967296 = (uu : Int) := by rw [huu]; omega
              have P1 := fun _ : Unit => hp1
              have P2 := fun _ : Unit => hp2
              have P3 := fun _ : Unit => hp3
              have hltV := HV.out.lt
              have M2 := fun _ : Unit => hm2
              have M7 := fun _ : Unit => hm7
              have UU := fun _ : Unit => huu
              clear hm1 hm2 hm3 hm4 hm5 hm6 hm7 hp1 hp2 hp3 l3 l4 l6 r1 r2 r3 huu
              go_wp2_with fail
              refine region_toG (T := anyT) (J := stayJ w3) anyT_trans anyT_refl () (fun vs W γ => Fr (fun _ => False) w3 W ∧ vs 24 = .int .u32 (uu : Int)) (by as_aux_lemma => kernel_rfl) (by as_aux_lemma => kernel_rfl) (by as_aux_lemma => kernel_rfl) (Fr.refl _ _).drew ?_ ?_
              · refine ⟨prOfG [.isU va, .isU p1, .isU va, .isU p2, .isU m1, .isU va, .isU p3, .isU m2, .isU va, .is (.pointer (some ⟨gv, 1, none⟩)), .isU vb, .isU m3, .isU va, .is (.pointer (some ⟨gv, 2, none⟩)), .isU vc, .isU m4, .isU m5, .is (.pointer (some ⟨gv, 1, none⟩)), .isU vb, .is (.pointer (some ⟨gv, 2, none⟩)), .isU vc, .isU m6, .isU m7, .isU uu, .isU uu], prOfG_st _, no_none (by as_aux_lemma => kernel_rfl), ⟨?_, ?_, ?_, ?_, ?_, ?_, ?_, ?_, ?_, ?_, ?_, ?_, ?_, ?_, ?_, ?_, ?_, ?_, ?_, ?_, ?_, ?_, ?_, ?_, ?_, trivial⟩, fun vs W γ hT hJ hp => ⟨hJ, hp 24 rfl⟩⟩
                · refine owes_plainG rfl fun dn a W γ hT hdn hdp hJ hf hd => ?_
                  have e12 := hf 12 rfl
                  exact step_val (w' := W) (by simp only [execOp]; go_simp) ⟨γ, anyT_refl _ _, stayJ_same (by decide) hJ, rfl⟩
                · refine owes_plainG rfl fun dn a W γ hT hdn hdp hJ hf hd => ?_
                  obtain ⟨v0, e0, rfl⟩ := hd 0 rfl
                  refine step_call (w' := W) (f := 86) (args := #[.int .u32 (va : Int), .int .u64 (2 : Int)]) (by simp only [execOp]; go_simp) ?_
                  refine (turn_calls va 2 W o1 (by omega)).mono ?_
                  rintro e w' ⟨rfl, rfl⟩
                  exact ⟨_, rfl, γ, anyT_refl _ _, hJ, by rw [← P1 ()]; rfl⟩
                · refine owes_plainG rfl fun dn a W γ hT hdn hdp hJ hf hd => ?_
                  have e12 := hf 12 rfl
                  exact step_val (w' := W) (by simp only [execOp]; go_simp) ⟨γ, anyT_refl _ _, stayJ_same (by decide) hJ, rfl⟩
                · refine owes_plainG rfl fun dn a W γ hT hdn hdp hJ hf hd => ?_
                  obtain ⟨v0, e0, rfl⟩ := hd 2 rfl
                  refine step_call (w' := W) (f := 86) (args := #[.int .u32 (va : Int), .int .u64 (13 : Int)]) (by simp only [execOp]; go_simp) ?_
                  refine (turn_calls va 13 W o1 (by omega)).mono ?_
                  rintro e w' ⟨rfl, rfl⟩
                  exact ⟨_, rfl, γ, anyT_refl _ _, hJ, by rw [← P2 ()]; rfl⟩
                · refine owes_plainG rfl fun dn a W γ hT hdn hdp hJ hf hd => ?_
                  obtain ⟨v1, e1, rfl⟩ := hd 1 rfl
                  obtain ⟨v3, e3, rfl⟩ := hd 3 rfl
                  exact step_val (w' := W) (by simp only [execOp]; go_simp) ⟨γ, anyT_refl _ _, stayJ_same (by decide) hJ, rfl⟩
                · refine owes_plainG rfl fun dn a W γ hT hdn hdp hJ hf hd => ?_
                  have e12 := hf 12 rfl
                  exact step_val (w' := W) (by simp only [execOp]; go_simp) ⟨γ, anyT_refl _ _, stayJ_same (by decide) hJ, rfl⟩
                · refine owes_plainG rfl fun dn a W γ hT hdn hdp hJ hf hd => ?_
                  obtain ⟨v0, e0, rfl⟩ := hd 5 rfl
                  refine step_call (w' := W) (f := 86) (args := #[.int .u32 (va : Int), .int .u64 (22 : Int)]) (by simp only [execOp]; go_simp) ?_
                  refine (turn_calls va 22 W o1 (by omega)).mono ?_
                  rintro e w' ⟨rfl, rfl⟩
                  exact ⟨_, rfl, γ, anyT_refl _ _, hJ, by rw [← P3 ()]; rfl⟩
                · refine owes_plainG rfl fun dn a W γ hT hdn hdp hJ hf hd => ?_
                  obtain ⟨v4, e4, rfl⟩ := hd 4 rfl
                  obtain ⟨v6, e6, rfl⟩ := hd 6 rfl
                  exact step_val (w' := W) (by simp only [execOp]; go_simp) ⟨γ, anyT_refl _ _, stayJ_same (by decide) hJ, rfl⟩
                · refine owes_plainG rfl fun dn a W γ hT hdn hdp hJ hf hd => ?_
                  have e12 := hf 12 rfl
                  exact step_val (w' := W) (by simp only [execOp]; go_simp) ⟨γ, anyT_refl _ _, stayJ_same (by decide) hJ, rfl⟩
                · refine owes_plainG rfl fun dn a W γ hT hdn hdp hJ hf hd => ?_
                  have e10 := hf 10 rfl
                  exact step_val (w' := W) (by simp only [execOp]; go_simp) ⟨γ, anyT_refl _ _, stayJ_same (by decide) hJ, rfl⟩
                · refine owes_plainG rfl fun dn a W γ hT hdn hdp hJ hf hd => ?_
                  obtain ⟨v0, e0, rfl⟩ := hd 9 rfl
                  have hcw := (Fr.cell hJ hltV (fun h => h)).trans c1
                  exact step_val (w' := W) (by simp only [execOp]; go_simp) ⟨γ, anyT_refl _ _, hJ, rfl⟩
                · refine owes_plainG rfl fun dn a W γ hT hdn hdp hJ hf hd => ?_
                  obtain ⟨v8, e8, rfl⟩ := hd 8 rfl
                  obtain ⟨v10, e10, rfl⟩ := hd 10 rfl
                  exact step_val (w' := W) (by simp only [execOp]; go_simp) ⟨γ, anyT_refl _ _, stayJ_same (by decide) hJ, rfl⟩
                · refine owes_plainG rfl fun dn a W γ hT hdn hdp hJ hf hd => ?_
                  have e12 := hf 12 rfl
                  exact step_val (w' := W) (by simp only [execOp]; go_simp) ⟨γ, anyT_refl _ _, stayJ_same (by decide) hJ, rfl⟩
                · refine owes_plainG rfl fun dn a W γ hT hdn hdp hJ hf hd => ?_
                  have e10 := hf 10 rfl
                  exact step_val (w' := W) (by simp only [execOp]; go_simp) ⟨γ, anyT_refl _ _, stayJ_same (by decide) hJ, rfl⟩
                · refine owes_plainG rfl fun dn a W γ hT hdn hdp hJ hf hd => ?_
                  obtain ⟨v0, e0, rfl⟩ := hd 13 rfl
                  have hcw := (Fr.cell hJ hltV (fun h => h)).trans c2
                  exact step_val (w' := W) (by simp only [execOp]; go_simp) ⟨γ, anyT_refl _ _, hJ, rfl⟩
                · refine owes_plainG rfl fun dn a W γ hT hdn hdp hJ hf hd => ?_
                  obtain ⟨v12, e12, rfl⟩ := hd 12 rfl
                  obtain ⟨v14, e14, rfl⟩ := hd 14 rfl
                  exact step_val (w' := W) (by simp only [execOp]; go_simp) ⟨γ, anyT_refl _ _, stayJ_same (by decide) hJ, rfl⟩
                · refine owes_plainG rfl fun dn a W γ hT hdn hdp hJ hf hd => ?_
                  obtain ⟨v11, e11, rfl⟩ := hd 11 rfl
                  obtain ⟨v15, e15, rfl⟩ := hd 15 rfl
                  exact step_val (w' := W) (by simp only [execOp]; go_simp) ⟨γ, anyT_refl _ _, stayJ_same (by decide) hJ, rfl⟩
                · refine owes_plainG rfl fun dn a W γ hT hdn hdp hJ hf hd => ?_
                  have e10 := hf 10 rfl
                  exact step_val (w' := W) (by simp only [execOp]; go_simp) ⟨γ, anyT_refl _ _, stayJ_same (by decide) hJ, rfl⟩
                · refine owes_plainG rfl fun dn a W γ hT hdn hdp hJ hf hd => ?_
                  obtain ⟨v0, e0, rfl⟩ := hd 17 rfl
                  have hcw := (Fr.cell hJ hltV (fun h => h)).trans c1
                  exact step_val (w' := W) (by simp only [execOp]; go_simp) ⟨γ, anyT_refl _ _, hJ, rfl⟩
                · refine owes_plainG rfl fun dn a W γ hT hdn hdp hJ hf hd => ?_
                  have e10 := hf 10 rfl
                  exact step_val (w' := W) (by simp only [execOp]; go_simp) ⟨γ, anyT_refl _ _, stayJ_same (by decide) hJ, rfl⟩
                · refine owes_plainG rfl fun dn a W γ hT hdn hdp hJ hf hd => ?_
                  obtain ⟨v0, e0, rfl⟩ := hd 19 rfl
                  have hcw := (Fr.cell hJ hltV (fun h => h)).trans c2
                  exact step_val (w' := W) (by simp only [execOp]; go_simp) ⟨γ, anyT_refl _ _, hJ, rfl⟩
                · refine owes_plainG rfl fun dn a W γ hT hdn hdp hJ hf hd => ?_
                  obtain ⟨v18, e18, rfl⟩ := hd 18 rfl
                  obtain ⟨v20, e20, rfl⟩ := hd 20 rfl
                  exact step_val (w' := W) (by simp only [execOp]; go_simp) ⟨γ, anyT_refl _ _, stayJ_same (by decide) hJ, rfl⟩
                · refine owes_plainG rfl fun dn a W γ hT hdn hdp hJ hf hd => ?_
                  obtain ⟨v16, e16, rfl⟩ := hd 16 rfl
                  obtain ⟨v21, e21, rfl⟩ := hd 21 rfl
                  exact step_val (w' := W) (by simp only [execOp]; go_simp) ⟨γ, anyT_refl _ _, stayJ_same (by decide) hJ, rfl⟩
                · refine owes_plainG rfl fun dn a W γ hT hdn hdp hJ hf hd => ?_
                  obtain ⟨v7, e7, rfl⟩ := hd 7 rfl
                  obtain ⟨v22, e22, rfl⟩ := hd 22 rfl
                  exact step_val (w' := W) (by simp only [execOp]; go_simp) ⟨γ, anyT_refl _ _, stayJ_same (by decide) hJ, rfl⟩
                · refine owes_plainG rfl fun dn a W γ hT hdn hdp hJ hf hd => ?_
                  obtain ⟨v23, e23, rfl⟩ := hd 23 rfl
                  exact step_val (w' := W) (by simp only [execOp]; go_simp) ⟨γ, anyT_refl _ _, stayJ_same (by decide) hJ, rfl⟩
              rintro vs w4 γ _ ⟨hwr4, hlast⟩
              simp only [laid, Nat.reduceAdd, hlast]
              clear hlast
              have HV := Lib.hid (HV.out.keep hwr4 fun h => h)
              have hA := Lib.hid (hA.out.keep hwr4 fun h => h)
              have hS := Lib.hid (hS.out.keep hwr4 fun h => h)
              have hZ := Lib.hid (hZ.out.keep hwr4 fun h => h)
              have hG := Lib.hid (hG.out.keep hwr4 fun k _ _ h => h)
              have hbel := below_fr hbel hwr4 (Nat.le_refl _) fun k _ h => h
              clear hwr4 k1 k2 k3 k4 k5 k6 k7 k8 c1 c2 P1 P2 P3 hltV
              have c0 : w4.cell? ⟨gv, 0, none⟩ = some (.int .u32 (va : Int)) := HV.out.cell 0
              have c1 : w4.cell? ⟨gv, 1, none⟩ = some (.int .u32 (vb : Int)) := HV.out.cell 1
              have c2 : w4.cell? ⟨gv, 2, none⟩ = some (.int .u32 (vc : Int)) := HV.out.cell 2
              have c3 : w4.cell? ⟨gv, 3, none⟩ = some (.int .u32 (vd : Int)) := HV.out.cell 3
              have c4 : w4.cell? ⟨gv, 4, none⟩ = some (.int .u32 (ve : Int)) := HV.out.cell 4
              have c5 : w4.cell? ⟨gv, 5, none⟩ = some (.int .u32 (vf : Int)) := HV.out.cell 5
              have c6 : w4.cell? ⟨gv, 6, none⟩ = some (.int .u32 (vg : Int)) := HV.out.cell 6
              have hcs : (#[.int .u32 (((t : Int) + (uu : Int)) % 4294967296), .int .u32 (va : Int), .int .u32 (vb : Int), .int .u32 (vc : Int), .int .u32 (((vd : Int) + (t : Int)) % 4294967296), .int .u32 (ve : Int), .int .u32 (vf : Int), .int .u32 (vg : Int)] : Array Value) = ua (rnds s b (n + 1)).l := by
                have e1 : (t + uu) % 4294967296 = (t + (m2 + m7)) % 4294967296 := by rw [UU ()]; omega
                have hr : rnd ⟨va, vb, vc, vd, ve, vf, vg, vh⟩ kk wi = ⟨(t + uu) % 4294967296, va, vb, vc, (vd + t) % 4294967296, ve, vf, vg⟩ := by rw [e1, M2 (), M7 (), HT (), Q2 (), Q6 ()]; rfl
                rw [HRS (), hr, show ((t : Int) + (uu : Int)) % 4294967296 = (((t + uu) % 4294967296 : Nat) : Int) from by omega, show ((vd : Int) + (t : Int)) % 4294967296 = (((vd + t) % 4294967296 : Nat) : Int) from by omega]
                rfl
              have HCS := fun _ : Unit => hcs
              have hV5 := HV.out.setRow (ua (rnds s b (n + 1)).l)
              have HV5 := Lib.hid hV5
              have hA5 := Lib.hid (hA.out.setRow_far (k := gv) (by omega) (ua (rnds s b (n + 1)).l))
              have hS5 := Lib.hid (hS.out.setRow_far (k := gv) (by omega) (ua (rnds s b (n + 1)).l))
              have hZ5 := Lib.hid (hZ.out.setRow_far (k := gv) (by omega) (ua (rnds s b (n + 1)).l))
              have hG5 : Hid (Glb (w4.setRow gv (ua (rnds s b (n + 1)).l))) := hG.out.keep ((Fr.refl (fun k => k = gv) w4).setRow (g := gv) (fun _ => rfl) _) fun k _ h1 h2 => by omega
              have hb5 := below_setRow_own hbel (g := gv) (by omega) (ua (rnds s b (n + 1)).l)
              clear hV5 hcs hA hS hZ hG hbel
              go_wp2_with (refine wpList_store_row rfl 80 _ _ rfl gv #[.int .u32 (((t : Int) + (uu : Int)) % 4294967296), .int .u32 (va : Int), .int .u32 (vb : Int), .int .u32 (vc : Int), .int .u32 (((vd : Int) + (t : Int)) % 4294967296), .int .u32 (ve : Int), .int .u32 (vf : Int), .int .u32 (vg : Int)] rfl rfl 80 _ HV.out (by as_aux_lemma => kernel_rfl) rfl (by rw [HCS ()]; exact ua_one _) ?_; rw [HCS ()])
              go_roundw
              case rel => exact ⟨n + 1, by omega, by go_num, HV5, hA5, hS5, hZ5, hG5, hb5⟩
              case measure => simp [intOf]; omega
            · have h64' : n = 64 := by omega
              subst h64'
              clear hlt hn hA hG
              rw [show ((64 : Nat) : Int) = (64 : Int) from rfl]
              obtain ⟨v, hv⟩ : ∃ v, v = rnds s b 64 := ⟨_, rfl⟩
              have hV' := hV.out
              rw [← hv] at hV'
              have HV := Lib.hid hV'
              have HVE := fun _ : Unit => hv
              have hvl : v.l.length = 8 := rfl
              clear hV hv hV'
              go_wp2_with fail
              go_loopw [16] (fun i wr => ∃ n : Nat, n ≤ 8 ∧ i = .int .i64 n ∧ Hid (Blk wr w.heap.size 80 (ua (addL s v n))) ∧ Hid (Blk wr gv 80 (ua v.l)) ∧ Hid (Blk wr (w.heap.size + 1) 80 (ua (List.replicate 8 0))) ∧ Below w.heap.size w wr) (fun i _ => 8 - (intOf i).toNat)
              case atStart => exact ⟨0, by omega, rfl, hS.out, HV, hZ, hbel⟩
              case round =>
                clear hS HV hZ hbel
                obtain ⟨n, hn, rfl, hS, hV, hZ, hbel⟩ := hrel
                by_cases hlt : n < 8
                · have hcs := (hS.out.cell n).trans (ua_get _ n (by rw [addL_length s v n (by omega)]; exact hlt))
                  rw [addL_get s v n hlt] at hcs
                  have hcv := (hV.out.cell n).trans (ua_get _ n (by rw [hvl]; exact hlt))
                  have hset := hS.out.set_ n (.int .u32 (((s.l.getD n 0 + v.l.getD n 0) % 4294967296 : Nat) : Int))
                  rw [ua_set, addL_set s v n hlt] at hset
                  have hfz := hS.out.frozen n
                  obtain ⟨x, hx⟩ : ∃ x, x = s.l.getD n 0 := ⟨_, rfl⟩
                  obtain ⟨y, hy⟩ : ∃ y, y = v.l.getD n 0 := ⟨_, rfl⟩
                  rw [← hx] at hcs hset
                  rw [← hy] at hset hcv
                  rw [show (((x + y) % 4294967296 : Nat) : Int) = ((x : Int) + (y : Int)) % 4294967296 from by omega] at hset
                  have HSET := Lib.hid hset
                  have hw32 : ∀ x : Int, IntKind.u32.wrap x = x % 4294967296 := fun x => by simp [IntKind.wrap, IntKind.signed, IntKind.bits]
                  have pn : (n : Int) < 8 := by omega
                  have rn : 0 ≤ (n : Int) := by omega
                  clear hset hx hy
                  go_wp2_with fail
                  refine wp_region_still_tail 9 (by as_aux_lemma => kernel_rfl) (by as_aux_lemma => kernel_rfl) ?_
                  simp only [List.take_succ_cons, List.take_zero, List.drop_succ_cons, List.drop_zero]
                  repeat still_step
                  try refine wpStill_nil ?_
                  change wpList _ _ _ _ _ wr.drew
                  clear hw32 pn rn hcv
                  go_wp2_with fail
                  go_roundw
                  case rel => exact ⟨n + 1, by omega, by go_num, HSET.out.drew, (hV.out.far (by show _ ≠ w.heap.size; omega) _).drew, (hZ.out.far (by show _ ≠ w.heap.size; omega) _).drew, (hbel.setCell (by simp) _).drew⟩
                  case measure => simp [intOf]; omega
                · have h8 : n = 8 := by omega
                  subst h8
                  have hend : Hid (Blk wr w.heap.size 80 (ua (blkF s b).l)) := by
                    show Blk _ _ _ _
                    have e : addL s v 8 = (blkF s b).l := by rw [HVE ()]; rfl
                    rw [← e]
                    exact hS.out
                  clear hS hV
                  obtain ⟨z, hz⟩ : ∃ z, z = blkF s b := ⟨_, rfl⟩
                  have hend2 := hend.out
                  rw [← hz] at hend2
                  have HEND := Lib.hid hend2
                  have HZ := fun _ : Unit => hz
                  clear hz hend hend2
                  go_wp2_with (first
                    | (refine wpList_load_row rfl 80 _ rfl w.heap.size rfl 80 (ua z.l) (0, 0) _ HEND.out Tryd.underlying80 rfl (by as_aux_lemma => kernel_rfl) ?_)
                    | (refine wpList_store_row rfl 80 _ _ rfl (w.heap.size + 1) (ua z.l) rfl rfl 80 _ hZ.out (by as_aux_lemma => kernel_rfl) rfl (ua_one _) ?_))
                  refine bodyPost_ret (results_cell_row rfl _ _ (w.heap.size + 1) 80 (ua z.l) (0, 0) _ rfl (hZ.out.setRow _) Tryd.underlying80 rfl (by as_aux_lemma => kernel_rfl)) rfl ?_
                  exact ⟨by rw [HZ ()], below_setRow_own hbel (by omega) _⟩
end Go.Proofs.YtbhaekdfpfncnaaDoor
