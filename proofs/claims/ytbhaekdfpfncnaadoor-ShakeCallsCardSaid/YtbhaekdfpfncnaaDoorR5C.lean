/- drawbridgeref05.Sum: SHA-256 of all pieces. -/
import Derived.Test.YtbhaekdfpfncnaaDoorR5B
import Derived.Test.YtbhaekdfpfncnaaDoorHkD
import Derived.StillTailTactics
namespace Go.Proofs.YtbhaekdfpfncnaaDoor
set_option linter.unusedVariables false
set_option linter.unusedSimpArgs false
open Go.RowKit

theorem outB_get (v : S8) (n : Nat) (h : n < 32) : (outB v)[n]? = some (UInt8.ofNat (v.l.getD (n / 4) 0 / 256 ^ (3 - n % 4))) := by
  match n, h with
  | 0, _ => rfl
  | 1, _ => rfl
  | 2, _ => rfl
  | 3, _ => rfl
  | 4, _ => rfl
  | 5, _ => rfl
  | 6, _ => rfl
  | 7, _ => rfl
  | 8, _ => rfl
  | 9, _ => rfl
  | 10, _ => rfl
  | 11, _ => rfl
  | 12, _ => rfl
  | 13, _ => rfl
  | 14, _ => rfl
  | 15, _ => rfl
  | 16, _ => rfl
  | 17, _ => rfl
  | 18, _ => rfl
  | 19, _ => rfl
  | 20, _ => rfl
  | 21, _ => rfl
  | 22, _ => rfl
  | 23, _ => rfl
  | 24, _ => rfl
  | 25, _ => rfl
  | 26, _ => rfl
  | 27, _ => rfl
  | 28, _ => rfl
  | 29, _ => rfl
  | 30, _ => rfl
  | 31, _ => rfl
  | n + 32, h => exact absurd h (by omega)
/-- The first n bytes, then zeros. -/
def outQ (v : S8) (n : Nat) : List UInt8 := (outB v).take n ++ List.replicate (32 - n) 0
theorem outQ_length (v : S8) (n : Nat) : (outQ v n).length = 32 := by simp [outQ, outB_length]; omega
theorem outQ_set (v : S8) (n : Nat) (h : n < 32) : (outQ v n).set n (UInt8.ofNat (v.l.getD (n / 4) 0 / 256 ^ (3 - n % 4))) = outQ v (n + 1) := by
  unfold outQ
  have hl := outB_length v
  rw [List.take_add_one, outB_get v n h, show 32 - n = (32 - (n + 1)) + 1 from by omega, List.replicate_succ, List.set_append_right _ _ (by rw [List.length_take]; omega), List.length_take, hl, Nat.min_eq_left (by omega), Nat.sub_self, List.set_cons_zero, List.append_assoc]
  rfl

set_option maxHeartbeats 2000000 in
set_option maxRecDepth 4000 in
theorem rsum_calls (A : Option Addr) (ls : List (List UInt8)) (c : Nat) (w : World) (F : Nat → Prop) (hr : RdL w F A ls) (hG : Glb w) (hl : ls.flatten.length ≤ 1099511627776) (hn : ls.length ≤ 1099511627776) :
    Calls Tryd.prog 40 #[.slice A ls.length c] w fun e w' => e = .returned (.agg (bc (sha ls.flatten)).toArray) ∧ Below w.heap.size w w' := by
  have HR := Lib.hid (hr.mono (F' := fun k => k < w.heap.size) fun k hk _ => hk)
  have HG0 := glb_pos hG
  have HG := Lib.hid hG
  obtain ⟨i0, hi0, hz0, hz1, hz2⟩ := info_parts info_u8
  clear hr hG
  go_enter Tryd.func40, Tryd.ntmps40
  go_wp2_with fail
  generalize hw0 : World.alloc w _ = w0
  have z0 : Hid (Blk w0 w.heap.size 31 (bc (List.replicate 32 0)).toArray) := by
    show Blk _ _ _ _
    rw [← hw0, z32]
    exact Blk.new _ _ _
  have zn : NewMem w w0 := by
    rw [← hw0]
    exact NewMem.alloc _ _
  have zs : w.heap.size + 1 ≤ w0.heap.size := by rw [← hw0]; simp
  clear hw0
  go_loopw [3, 4] (fun b i wr => ∃ (k : Nat) (A' : Option Addr) (c' : Nat) (q : List UInt8), k ≤ ls.length ∧ i = .int .i64 k ∧ Hid (q = (ls.take k).flatten) ∧ b = .slice A' q.length c' ∧ Hid (wr.ownsRow (w.heap.size + 1) 5 1 (.slice A' q.length c') q.length (bc q)) ∧ Hid (Blk wr w.heap.size 31 (bc (List.replicate 32 0)).toArray) ∧ Hid (Below (w.heap.size + 1) w0 wr)) (fun _ i _ => ls.length - (intOf i).toNat)
  case atStart => exact ⟨0, none, 0, [], by omega, rfl, rfl, rfl, World.ownsRow_nil _ _ _ _, z0, Below.refl _ _⟩
  case round =>
    clear z0
    obtain ⟨k, A', c', q, hk, rfl, hq, rfl, hown, hB, hbel⟩ := hrel
    by_cases hlt : k < ls.length
    · obtain ⟨b1, off1, rfl, hb1, hcell1⟩ := RdL.form ((HR.out.below zn).belowB hbel.out fun k hk => by omega) (by omega)
      obtain ⟨a3, c3, hc3, hr3, hlc3⟩ := hcell1 k _ (List.getElem?_eq_getElem hlt)
      clear hcell1
      have htk : (ls.take (k + 1)).flatten = (ls.take k).flatten ++ ls[k] := by rw [List.take_succ_eq_append_getElem hlt, List.flatten_append]; simp [List.flatten]
      have hle : (ls.take (k + 1)).flatten.length ≤ ls.flatten.length := by
        have := congrArg List.length (congrArg List.flatten (List.take_append_drop (k + 1) ls))
        rw [List.flatten_append, List.length_append] at this
        omega
      obtain ⟨l3, hl3⟩ : ∃ l3, l3 = ls[k] := ⟨_, rfl⟩
      rw [← hl3] at hc3 hr3 hlc3 htk
      have hml : q.length + l3.length ≤ 1099511627776 := by
        rw [htk, List.length_append] at hle
        rw [hq.out]
        omega
      rw [← hq.out] at htk
      have HTK := fun _ : Unit => htk
      have HR3 := Lib.hid hr3
      have hsz : w.heap.size + 1 ≤ wr.heap.size := Nat.le_trans zs hbel.out.size
      clear hl3 htk hle hr3
      go_wp2_with (at_builtin; (with_reducible refine wpList_append_rd _ rfl (.tmp 15) (.tmp 19) _ rfl (w.heap.size + 1) 5 i0 _ 1 Tryd.underlying25 hi0 hz0 hz1 hz2 rfl (.slice A' q.length c') q.length (bc q) rfl hown.out _ a3 l3.length c3 (bc l3) rfl (by rw [bc_length]) HR3.out (bc_one l3) (by rw [bc_length]; simp [maxLen]; omega) (by rw [bc_length]; omega) hsz ?_); intro v3 w3 hown3 hg3 hat3)
      have hb3 : Hid (Below (w.heap.size + 1) w0 w3) := hbel.out.grown hg3 hsz (fun k hk => (hown.out.lt k hk).1)
      have hB3 : Hid (Blk w3 w.heap.size 31 (bc (List.replicate 32 0)).toArray) := hB.out.keep ((Fr.refl (fun k => w.heap.size + 1 ≤ k) wr).grown hg3 fun k hk _ => (hown.out.lt k hk).1) (by omega)
      rw [← bc_append, bc_length, ← List.length_append, ← HTK ()] at hown3
      obtain ⟨A3, c4, rfl, _⟩ := own_shape hown3
      have HO3 := Lib.hid hown3
      clear hown3 hg3 hat3
      go_wp2_with fail
      go_roundw
      case rel => exact ⟨k + 1, A3, c4, _, by omega, by go_num, rfl, by rw [HTK ()], HO3, hB3, hb3⟩
      case measure => simp [intOf]; omega
    · have hkl : k = ls.length := by omega
      subst hkl
      have hq' := hq.out
      rw [List.take_length] at hq'
      rw [← hq'] at hl
      have HQ := fun _ : Unit => hq'
      have hsz : w.heap.size + 1 ≤ wr.heap.size := Nat.le_trans zs hbel.out.size
      clear hq hq' hlt hk
      go_wp2_with fail
      refine (rpad_calls q.length wr (by omega)).mono ?_
      rintro e w4 ⟨A4, c4, rfl, hown4, hb4⟩
      have hr4 := Rd.of_own hown4 (by omega)
      have hmod := pad_mod q.length
      have hpl := padB_length q.length
      have hown5 := own_below hown.out hb4
      have hB5 := Lib.hid (hB.out.below hb4)
      have hbel5 : Hid (Below (w.heap.size + 1) w0 w4) := hbel.out.trans (hb4.mono hsz)
      have hsz5 : w.heap.size + 1 ≤ w4.heap.size := Nat.le_trans hsz hb4.size
      obtain ⟨pd, hpd⟩ : ∃ pd, pd = padB q.length := ⟨_, rfl⟩
      rw [← hpd] at hr4 hmod hpl ⊢
      have hpl2 : 9 ≤ pd.length ∧ pd.length ≤ 72 := by omega
      have HPD := fun _ : Unit => hpd
      have HMOD := fun _ : Unit => hmod
      have HR4 := Lib.hid hr4
      have HO5 := Lib.hid hown5
      clear hown4 hr4 hmod hpl hown hB hbel hpd hown5 hb4
      go_wp2_with (at_builtin; (with_reducible refine wpList_append_rd _ rfl (.tmp 21) (.tmp 24) _ rfl (w.heap.size + 1) 5 i0 _ 1 Tryd.underlying25 hi0 hz0 hz1 hz2 rfl (.slice A' q.length c') q.length (bc q) rfl HO5.out _ A4 pd.length c4 (bc pd) rfl (by rw [bc_length]) HR4.out (bc_one pd) (by rw [bc_length]; simp [maxLen]; omega) (by rw [bc_length]; omega) hsz5 ?_); intro v3 w3 hown3 hg3 hat3)
      have hb3 : Hid (Below (w.heap.size + 1) w0 w3) := hbel5.out.grown hg3 hsz5 (fun k hk => (HO5.out.lt k hk).1)
      have hB3 : Hid (Blk w3 w.heap.size 31 (bc (List.replicate 32 0)).toArray) := hB5.out.keep ((Fr.refl (fun k => w.heap.size + 1 ≤ k) w4).grown hg3 fun k hk _ => (HO5.out.lt k hk).1) (by omega)
      have hlm : (q ++ pd).length = q.length + pd.length := by simp
      rw [← bc_append, bc_length] at hown3
      obtain ⟨m, hm⟩ : ∃ m, m = q ++ pd := ⟨_, rfl⟩
      rw [← hm] at hown3 hlm
      rw [← hlm] at hown3
      obtain ⟨g5, c5, hv5, hg5⟩ := hown3.form (by omega)
      subst hv5
      have HO3 := Lib.hid hown3
      have HM := fun _ : Unit => hm
      have hm64 : m.length % 64 = 0 := by rw [hlm]; exact HMOD ()
      have hmb : m.length ≤ 2199023255552 := by omega
      have HLM := fun _ : Unit => hlm
      have HM64 := fun _ : Unit => hm64
      have hcc := own_shape hown3
      clear hown3 hg3 hat3 hm hlm hm64 hB5 hbel5 hsz5 HO5 HR4
      generalize hw5 : World.alloc w3 _ = w5
      obtain ⟨gs, hgs⟩ : ∃ g, g = w3.heap.size := ⟨_, rfl⟩
      rw [← hgs]
      have s5 : Hid (Blk w5 gs 80 (ua iv.l)) := by
        show Blk _ _ _ _
        rw [← hw5, hgs]
        exact Blk.new _ _ _
      have o5 : Hid (w5.ownsRow (w.heap.size + 1) 5 1 (.slice (some ⟨g5, 0, none⟩) m.length c5) m.length (bc m)) := by
        show World.ownsRow _ _ _ _ _ _ _
        rw [← hw5]
        exact HO3.out.alloc _
      have b5 : Hid (Blk w5 w.heap.size 31 (bc (List.replicate 32 0)).toArray) := by
        show Blk _ _ _ _
        rw [← hw5]
        exact hB3.out.alloc _
      have hsz3 : w.heap.size + 1 ≤ w3.heap.size := Nat.le_trans zs hb3.out.size
      have n5 : Hid (Below (w.heap.size + 1) w0 w5) := by
        show Below _ _ _
        rw [← hw5]
        exact hb3.out.alloc hsz3 _
      have hgg : gs ≠ g5 ∧ gs ≠ w.heap.size ∧ w.heap.size + 1 ≤ gs := ⟨by omega, by omega, by omega⟩
      have hcl : m.length ≤ c5 := by obtain ⟨A', c', e, h, _⟩ := hcc; injection e with _ _ e; rw [e]; exact h
      have hc5 : c5 ≤ 9223372036854775807 := by
        rcases HO3.out.2 with ⟨h, _⟩ | ⟨g, cap, cur, h, _, _, _, h2, _⟩
        · cases h
        · injection h with _ _ h
          rw [h]
          exact h2
      clear hw5 hgs hcc HO3 hB3 hb3
      go_loopw [6] (fun i wr => ∃ n : Nat, 64 * n ≤ m.length ∧ i = .int .i64 (64 * (n : Int)) ∧ Hid (Blk wr gs 80 (ua (foldB n iv m).l)) ∧ Hid (wr.ownsRow (w.heap.size + 1) 5 1 (.slice (some ⟨g5, 0, none⟩) m.length c5) m.length (bc m)) ∧ Hid (Blk wr w.heap.size 31 (bc (List.replicate 32 0)).toArray) ∧ Hid (Below (w.heap.size + 1) w0 wr)) (fun i _ => m.length - (intOf i).toNat)
      case atStart => exact ⟨0, by omega, rfl, s5, o5, b5, n5⟩
      case round =>
        clear s5 o5 b5 n5
        obtain ⟨n, hn, rfl, hS, hown, hB, hbel⟩ := hrel
        by_cases hlt : 64 * n < m.length
        · have hn1 : 64 * (n + 1) ≤ m.length := by have := HM64 (); omega
          have hok := foldB_ok n iv m iv_ok
          have hsu := foldB_succ n iv m
          have hrd := ((Rd.of_own hown.out (by omega)).cutAt (64 * n)).take 64
          rw [← bc_drop, ← bc_take, Nat.zero_add] at hrd
          have hbl : ((m.drop (64 * n)).take 64).length = 64 := by rw [List.length_take, List.length_drop]; omega
          obtain ⟨bb, hbb⟩ : ∃ bb, bb = (m.drop (64 * n)).take 64 := ⟨_, rfl⟩
          rw [← hbb] at hrd hbl hsu
          obtain ⟨v, hv⟩ : ∃ v, v = foldB n iv m := ⟨_, rfl⟩
          rw [← hv] at hok hsu
          have hS' := hS.out
          rw [← hv] at hS'
          obtain ⟨va, vb, vc, vd, ve, vf, vg, vh⟩ := v
          have c0 : wr.cell? ⟨gs, 0, none⟩ = some (.int .u32 (va : Int)) := hS'.cell 0
          have c1 : wr.cell? ⟨gs, 1, none⟩ = some (.int .u32 (vb : Int)) := hS'.cell 1
          have c2 : wr.cell? ⟨gs, 2, none⟩ = some (.int .u32 (vc : Int)) := hS'.cell 2
          have c3 : wr.cell? ⟨gs, 3, none⟩ = some (.int .u32 (vd : Int)) := hS'.cell 3
          have c4 : wr.cell? ⟨gs, 4, none⟩ = some (.int .u32 (ve : Int)) := hS'.cell 4
          have c5' : wr.cell? ⟨gs, 5, none⟩ = some (.int .u32 (vf : Int)) := hS'.cell 5
          have c6' : wr.cell? ⟨gs, 6, none⟩ = some (.int .u32 (vg : Int)) := hS'.cell 6
          have c7' : wr.cell? ⟨gs, 7, none⟩ = some (.int .u32 (vh : Int)) := hS'.cell 7
          have HSU := fun _ : Unit => hsu
          have HRD := Lib.hid hrd
          have HBL := fun _ : Unit => hbl
          have HOK := fun _ : Unit => hok
          have HS := Lib.hid hS'
          have hsz5 : w.heap.size + 1 ≤ wr.heap.size := Nat.le_trans zs hbel.out.size
          clear hbb hv hS hS' hsu hrd hbl hok
          have r0 : 0 ≤ 64 * (n : Int) := by omega
          have r1 : 0 ≤ 64 * (n : Int) + 64 := by omega
          have q1 : IntKind.i64.wrap (64 * (n : Int) + 64) = 64 * (n : Int) + 64 := IntWalk.i64_in _ ⟨by omega, by omega⟩
          have t0 : (64 * (n : Int)).toNat = 64 * n := by omega
          have t1 : (64 * (n : Int) + 64).toNat = 64 * n + 64 := by omega
          have p0 : 64 * n + 64 - 64 * n = 64 := by omega
          have p1 : 64 * n + 64 ≤ c5 := by omega
          have p2 : ¬ (c5 = 64 * n) := by omega
          have p3 : 64 * n ≤ 64 * n + 64 := by omega
          have p4 : 64 * (n : Int) + 64 ≤ (c5 : Int) := by omega
          have p5 : 64 * (n : Int) ≤ 64 * (n : Int) + 64 := by omega
          go_wp2_with fail
          go_still_tail 6, (by kernel_rfl)
          clear q1 r0 r1 t0 t1 p0 p1 p2 p3 p4 p5 c0 c1 c2 c3 c4 c5' c6' c7'
          change wpList _ _ _ _ _ wr.drew
          generalize hw6 : wr.drew = w6
          have hwr6 : NewMem wr w6 := by rw [← hw6]; exact (NewMem.refl _).drew
          clear hw6
          go_wp2_with fail
          have hS6 := Lib.hid (HS.out.below hwr6)
          have hO6 := Lib.hid (own_below hown.out hwr6)
          have hB6 := Lib.hid (hB.out.below hwr6)
          have hbel6 : Hid (Below (w.heap.size + 1) w0 w6) := hbel.out.trans (hwr6.mono hsz5)
          refine (step_calls ⟨va, vb, vc, vd, ve, vf, vg, vh⟩ (HOK ()) (some ⟨g5, 64 * n, none⟩) bb (HBL ()) (c5 - 64 * n) w6 _ (HRD.out.below hwr6) ((HG.out.below zn).belowB hbel6.out fun k hk => by omega)).mono ?_
          rintro e w7 ⟨rfl, hb7⟩
          have hS7 := Lib.hid (hS6.out.below hb7)
          have hO7 := own_below hO6.out hb7
          have hB7 := Lib.hid (hB6.out.below hb7)
          have hbel7 : Below (w.heap.size + 1) w0 w7 := hbel6.out.trans (hb7.mono (Nat.le_trans hsz5 hwr6.size))
          rw [← HSU ()]
          have hO8 : Hid ((w7.setRow gs (ua (foldB (n + 1) iv m).l)).ownsRow (w.heap.size + 1) 5 1 (.slice (some ⟨g5, 0, none⟩) m.length c5) m.length (bc m)) :=
            hO7.kept (row := some gs) ⟨rfl, rfl, rfl, by simp, fun k hk hne => setRow_other w7 gs k _ (fun e => hne (by rw [e]))⟩ (Or.inr (by show some g5 ≠ some gs; intro e; injection e with e; omega))
          have hbel8 : Hid (Below (w.heap.size + 1) w0 (w7.setRow gs (ua (foldB (n + 1) iv m).l))) := below_setRow_own hbel7 (by omega) _
          clear hS6 hO6 hB6 hbel6 hO7 hbel7 hb7 HRD hown hB hbel HS hwr6
          go_wp2_with (refine wpList_store_row rfl 80 _ _ rfl gs (ua (foldB (n + 1) iv m).l) rfl rfl 80 _ hS7.out (by kernel_rfl) rfl (ua_one _) ?_)
          go_roundw
          case rel => exact ⟨n + 1, hn1, by go_num, hS7.out.setRow _, hO8, hB7.out.setRow_far (by omega) _, hbel8⟩
          case measure => simp [intOf]; omega
        · have hml : m.length / 64 = n := by omega
          obtain ⟨v, hv⟩ : ∃ v, v = foldB n iv m := ⟨_, rfl⟩
          have hS' := hS.out
          rw [← hv] at hS'
          have HS := Lib.hid hS'
          have hres : sha ls.flatten = outB v := by
            rw [hv, ← hml, HM (), HPD (), ← HQ ()]
            rfl
          have hok : v.ok := by rw [hv]; exact foldB_ok _ _ _ iv_ok
          have HRES := fun _ : Unit => hres
          have HOK := fun (k : Nat) (h : k < 8) => S8.ok_get hok h
          have hvl : v.l.length = 8 := rfl
          have hltS := HS.out.lt
          have hltB := hB.out.lt
          clear hS hS' hres hok hv hml hown
          go_wp2_with fail
          generalize hw6 : World.alloc wr _ = w6
          obtain ⟨go, hgo⟩ : ∃ g, g = wr.heap.size := ⟨_, rfl⟩
          rw [← hgo] at hltS hltB ⊢
          have o6 : Hid (Blk w6 go 31 (bc (outQ v 0)).toArray) := by
            show Blk _ _ _ _
            rw [← hw6, hgo, show outQ v 0 = List.replicate 32 0 from rfl, z32]
            exact Blk.new _ _ _
          have s6 : Hid (Blk w6 gs 80 (ua v.l)) := by
            show Blk _ _ _ _
            rw [← hw6]
            exact HS.out.alloc _
          have b6 : Hid (Blk w6 w.heap.size 31 (bc (List.replicate 32 0)).toArray) := by
            show Blk _ _ _ _
            rw [← hw6]
            exact hB.out.alloc _
          have n6 : Hid (Below (w.heap.size + 1) w0 w6) := by
            show Below _ _ _
            rw [← hw6]
            exact hbel.out.alloc (Nat.le_trans zs hbel.out.size) _
          clear hw6 hgo HS hB hbel hn hlt
          go_loopw [8] (fun i wr => ∃ n : Nat, n ≤ 32 ∧ i = .int .i64 n ∧ Hid (Blk wr go 31 (bc (outQ v n)).toArray) ∧ Hid (Blk wr gs 80 (ua v.l)) ∧ Hid (Blk wr w.heap.size 31 (bc (List.replicate 32 0)).toArray) ∧ Hid (Below (w.heap.size + 1) w0 wr)) (fun i _ => 32 - (intOf i).toNat)
          case atStart => exact ⟨0, by omega, rfl, o6, s6, b6, n6⟩
          case round =>
            clear o6 s6 b6 n6
            obtain ⟨n, hn, rfl, hO, hS, hB, hbel⟩ := hrel
            by_cases hlt : n < 32
            · have hst := outQ_set v n hlt
              have hxl := HOK (n / 4) (by omega)
              have hcs := (hS.out.cell (n / 4)).trans (ua_get _ (n / 4) (by rw [hvl]; omega))
              have hco := (hO.out.cell n).trans ((List.getElem?_toArray ..).trans (bc_get _ n (by rw [outQ_length]; exact hlt)))
              have hfo := hO.out.frozen n
              generalize (outQ v n)[n]'_ = y0 at hco
              obtain ⟨x, hx⟩ : ∃ x, x = v.l.getD (n / 4) 0 := ⟨_, rfl⟩
              rw [← hx] at hst hxl hcs
              obtain ⟨qq, hqq⟩ : ∃ q, q = n / 4 := ⟨_, rfl⟩
              rw [← hqq] at hcs
              have hdiv : (n : Int) / 4 = (qq : Int) := by omega
              have hq8 : qq < 8 := by omega
              clear hx hqq
              obtain h4 | h4 | h4 | h4 : n % 4 = 0 ∨ n % 4 = 1 ∨ n % 4 = 2 ∨ n % 4 = 3 := by omega
              all_goals
                rw [h4] at hst
                have HST := fun _ : Unit => hst
                clear hst
              · have hmod : (n : Int) % 4 = 0 := by omega
                clear h4
                have he : ((UInt8.ofNat (x / 256 ^ (3 - 0))).toNat : Int) = (x : Int) / 16777216 := by rw [UInt8.toNat_ofNat']; omega
                have hb := hO.out.set_ n (.int .u8 ((UInt8.ofNat (x / 256 ^ (3 - 0))).toNat : Int))
                rw [bc_aset, HST (), he] at hb
                have HBN := Lib.hid hb
                clear he hb
                go_wp2_with fail
                go_roundw
                case rel => exact ⟨n + 1, by omega, by go_num, HBN.out, hS.out.far (by show _ ≠ go; omega) _, hB.out.far (by show _ ≠ go; omega) _, hbel.out.setCell (by show _ ≤ go; omega) _⟩
                case measure => simp [intOf]; omega
              · have hmod : (n : Int) % 4 = 1 := by omega
                clear h4
                have he : ((UInt8.ofNat (x / 256 ^ (3 - 1))).toNat : Int) = (x : Int) / 65536 % 256 := by rw [UInt8.toNat_ofNat']; omega
                have hb := hO.out.set_ n (.int .u8 ((UInt8.ofNat (x / 256 ^ (3 - 1))).toNat : Int))
                rw [bc_aset, HST (), he] at hb
                have HBN := Lib.hid hb
                clear he hb
                go_wp2_with fail
                go_roundw
                case rel => exact ⟨n + 1, by omega, by go_num, HBN.out, hS.out.far (by show _ ≠ go; omega) _, hB.out.far (by show _ ≠ go; omega) _, hbel.out.setCell (by show _ ≤ go; omega) _⟩
                case measure => simp [intOf]; omega
              · have hmod : (n : Int) % 4 = 2 := by omega
                clear h4
                have he : ((UInt8.ofNat (x / 256 ^ (3 - 2))).toNat : Int) = (x : Int) / 256 % 256 := by rw [UInt8.toNat_ofNat']; omega
                have hb := hO.out.set_ n (.int .u8 ((UInt8.ofNat (x / 256 ^ (3 - 2))).toNat : Int))
                rw [bc_aset, HST (), he] at hb
                have HBN := Lib.hid hb
                clear he hb
                go_wp2_with fail
                go_roundw
                case rel => exact ⟨n + 1, by omega, by go_num, HBN.out, hS.out.far (by show _ ≠ go; omega) _, hB.out.far (by show _ ≠ go; omega) _, hbel.out.setCell (by show _ ≤ go; omega) _⟩
                case measure => simp [intOf]; omega
              · have hmod : (n : Int) % 4 = 3 := by omega
                clear h4
                have he : ((UInt8.ofNat (x / 256 ^ (3 - 3))).toNat : Int) = (x : Int) % 256 := by rw [UInt8.toNat_ofNat']; omega
                have hb := hO.out.set_ n (.int .u8 ((UInt8.ofNat (x / 256 ^ (3 - 3))).toNat : Int))
                rw [bc_aset, HST (), he] at hb
                have HBN := Lib.hid hb
                clear he hb
                go_wp2_with fail
                go_roundw
                case rel => exact ⟨n + 1, by omega, by go_num, HBN.out, hS.out.far (by show _ ≠ go; omega) _, hB.out.far (by show _ ≠ go; omega) _, hbel.out.setCell (by show _ ≤ go; omega) _⟩
                case measure => simp [intOf]; omega
            · have h32 : n = 32 := by omega
              subst h32
              have hO' := hO.out
              rw [show outQ v 32 = outB v from by unfold outQ; rw [List.take_of_length_le (by rw [outB_length]; omega)]; simp] at hO'
              have hzl := outB_length v
              generalize hz : outB v = z at *
              have HZ := fun _ : Unit => hz
              have HO := Lib.hid hO'
              have hzs : (bc z).toArray.size = 32 := by simp [hzl]
              have HZS := fun _ : Unit => hzs
              clear hz hO hO' hzl hzs hS
              go_wp2_with (first
                | (refine wpList_load_row rfl 31 _ rfl go rfl 31 (bc z).toArray (0, 0) _ HO.out Tryd.underlying31 rfl (by rw [HZS ()]; kernel_rfl) ?_)
                | (refine wpList_store_row rfl 31 _ _ rfl w.heap.size (bc z).toArray rfl rfl 31 _ hB.out (by rw [HZS ()]; kernel_rfl) (by rw [HZS ()]; rfl) (bc_all _) ?_))
              refine bodyPost_ret (results_cell_row rfl _ _ w.heap.size 31 (bc z).toArray (0, 0) _ rfl (hB.out.setRow _) Tryd.underlying31 rfl (by rw [HZS ()]; kernel_rfl)) rfl ?_
              exact ⟨by rw [HRES ()], below_setRow_own (Below.trans zn (Below.mono hbel.out (Nat.le_succ _))) (Nat.le_refl _) _⟩
end Go.Proofs.YtbhaekdfpfncnaaDoor
