/- The law ShakeAgain, walked. -/
import Derived.Test.YtbhaekdfpfncnaaDoorPkEq
namespace Go.Proofs.YtbhaekdfpfncnaaDoor
set_option linter.unusedVariables false
set_option linter.unusedSimpArgs false
open Go.RowKit

theorem blk_cells' {w : World} {g : Nat} {t : TypeId} {cs : Array Value} (h : Blk w g t cs) : ∀ (j : Nat) (v : Value), cs.toList[j]? = some v → w.cell? ((⟨g, 0, none⟩ : Addr).add j) = some v := blk_cells (by rw [Array.toArray_toList]; exact h)
section
variable (key ra rb : List UInt8) (ses ep : Nat)
def agH : PK := hPK 5 ra (helF key 5 ra)
def agA : PK := aPK ses ep rb (ansF key (agH key ra) (aPK ses ep rb Z16))
def agS : List UInt8 := hkey (ra ++ rb) key (tSec ++ be 8 ses)
theorem agS_length : (agS key ra rb ses).length = 32 := hkey_length _ _ _
theorem ag_helP : helP key 5 ra = agH key ra := by unfold helP; rw [chk_h]; rfl
theorem ag_helE : helE 5 ra = 0 := by unfold helE; rw [chk_h]; rfl
theorem ag_ch : chN key (agH key ra) = 0 := by unfold agH; rw [chN_hel]; rfl
variable (hs : 0 < ses) (he : 0 < ep)
theorem ag_chk (m : List UInt8) (hs : 0 < ses) (he : 0 < ep) : chkB (aPK ses ep rb m) = true := by
  rw [chk_a, decide_eq_true (show 1 ≤ ses from hs), decide_eq_true (show 1 ≤ ep from he)]
  rfl
theorem ag_anN (hs : 0 < ses) (he : 0 < ep) : anN key (agH key ra) ses ep rb = 0 := by
  unfold anN
  rw [ag_ch, if_pos rfl, ag_chk _ _ _ _ hs he]
  rfl
theorem ag_anP (hs : 0 < ses) (he : 0 < ep) : anP key (agH key ra) ses ep rb = agA key ra rb ses ep := by
  unfold anP
  rw [ag_anN _ _ _ _ _ hs he, if_pos rfl]
  rfl
theorem ag_anS (hs : 0 < ses) (he : 0 < ep) : anS key (agH key ra) ses ep rb = agS key ra rb ses := by
  unfold anS
  rw [ag_anN _ _ _ _ _ hs he, if_pos rfl]
  simp only [secF, agS, agH, aPK, hPK]
theorem ag_caN (hs : 0 < ses) (he : 0 < ep) : caN key (agH key ra) (agA key ra rb ses ep) = 0 := by
  unfold caN
  rw [ag_ch, if_pos rfl, show chkB (agA key ra rb ses ep) = true from ag_chk _ _ _ _ hs he, if_pos rfl, if_pos (show (agA key ra rb ses ep).kind = 2 from rfl), if_pos (show (agA key ra rb ses ep).mrk = ansF key (agH key ra) (agA key ra rb ses ep) from by simp only [agA, aPK, ansF])]
theorem ag_caS (hs : 0 < ses) (he : 0 < ep) : caS key (agH key ra) (agA key ra rb ses ep) = agS key ra rb ses := by
  unfold caS
  rw [ag_caN _ _ _ _ _ hs he, if_pos rfl]
  simp only [secF, agS, agH, agA, aPK, hPK]
end

set_option maxRecDepth 4000 in
set_option maxHeartbeats 8000000 in
theorem again_calls (key : List UInt8) (hk : key.length = 32) (ra rb : List UInt8) (hra : ra.length = 16) (hrb : rb.length = 16) (ses ep ep2 : Nat) (hses : ses < 18446744073709551616) (hep : ep < 4294967296) (hep2 : ep2 < 4294967296) (w : World) (hG : Glb w) :
    Calls Tryd.prog 7 #[.agg (bc key).toArray, .agg (bc ra).toArray, .agg (bc rb).toArray, .int .u64 (ses : Int), .int .u32 (ep : Int), .int .u32 (ep2 : Int)] w fun e w' => e = .returned (.bool true) ∧ Below w.heap.size w w' := by
  have HG := Lib.hid hG
  have hHok : (agH key ra).ok := hPK_ok (by omega) hra (helF_length _ _ _)
  have hAok : (agA key ra rb ses ep).ok := aPK_ok hses hep hrb (ansF_length _ _ _)
  have hA2ok : (agA key ra rb ses ep2).ok := aPK_ok hses hep2 hrb (ansF_length _ _ _)
  obtain ⟨H, hH⟩ : ∃ H, H = agH key ra := ⟨_, rfl⟩
  obtain ⟨A, hA⟩ : ∃ A, A = agA key ra rb ses ep := ⟨_, rfl⟩
  obtain ⟨A2, hA2⟩ : ∃ A, A = agA key ra rb ses ep2 := ⟨_, rfl⟩
  obtain ⟨S, hS⟩ : ∃ S, S = agS key ra rb ses := ⟨_, rfl⟩
  have hSl : S.length = 32 := by rw [hS]; exact agS_length _ _ _ _
  rw [← hH] at hHok
  rw [← hA] at hAok
  rw [← hA2] at hA2ok
  have C1 : Unit → helP key 5 ra = H := fun _ => by rw [hH]; exact ag_helP _ _
  have C2 : Unit → helE 5 ra = 0 := fun _ => ag_helE _
  have C3 : Unit → 0 < ses → 0 < ep → anP key H ses ep rb = A ∧ anN key H ses ep rb = 0 ∧ anS key H ses ep rb = S ∧ caN key H A = 0 ∧ caS key H A = S := fun _ h1 h2 => by
    rw [hH, hA, hS]
    exact ⟨ag_anP _ _ _ _ _ h1 h2, ag_anN _ _ _ _ _ h1 h2, ag_anS _ _ _ _ _ h1 h2, ag_caN _ _ _ _ _ h1 h2, ag_caS _ _ _ _ _ h1 h2⟩
  have C4 : Unit → 0 < ses → 0 < ep2 → anP key H ses ep2 rb = A2 ∧ anN key H ses ep2 rb = 0 ∧ anS key H ses ep2 rb = S ∧ caN key H A2 = 0 ∧ caS key H A2 = S := fun _ h1 h2 => by
    rw [hH, hA2, hS]
    exact ⟨ag_anP _ _ _ _ _ h1 h2, ag_anN _ _ _ _ _ h1 h2, ag_anS _ _ _ _ _ h1 h2, ag_caN _ _ _ _ _ h1 h2, ag_caS _ _ _ _ _ h1 h2⟩
  have PS : Unit → ∀ w, Calls Tryd.prog 15 #[.agg A.X, .agg A.X] w fun e w' => e = .returned (.bool true) ∧ Below w.heap.size w w' := fun _ w => packet_same A hAok (by rw [hA]; rfl) (by rw [hA]; rfl) (by rw [hA]; rfl) w
  obtain ⟨X, hX⟩ : ∃ X, X = H.X := ⟨_, rfl⟩
  obtain ⟨Y, hY⟩ : ∃ X, X = A.X := ⟨_, rfl⟩
  obtain ⟨Y2, hY2⟩ : ∃ X, X = A2.X := ⟨_, rfl⟩
  obtain ⟨KC, hKC⟩ : ∃ X, X = (bc key).toArray := ⟨_, rfl⟩
  obtain ⟨RA, hRA⟩ : ∃ X, X = (bc ra).toArray := ⟨_, rfl⟩
  obtain ⟨RB, hRB⟩ : ∃ X, X = (bc rb).toArray := ⟨_, rfl⟩
  obtain ⟨SC, hSC⟩ : ∃ X, X = (bc S).toArray := ⟨_, rfl⟩
  have heq1 := fun (w : World) => eq32 w S S hSl hSl
  rw [show decide (S = S) = true from decide_eq_true rfl] at heq1
  rw [← hSC] at heq1
  have HX := fun _ : Unit => hX
  have HY := fun _ : Unit => hY
  have HY2 := fun _ : Unit => hY2
  have HKC := fun _ : Unit => hKC
  have HRA := fun _ : Unit => hRA
  have HRB := fun _ : Unit => hRB
  have HSC := fun _ : Unit => hSC
  have ZX : Unit → X.size = 38 := fun _ => by rw [hX]; exact PK.size hHok
  have ZY : Unit → Y.size = 38 := fun _ => by rw [hY]; exact PK.size hAok
  have ZY2 : Unit → Y2.size = 38 := fun _ => by rw [hY2]; exact PK.size hA2ok
  have ZK : Unit → KC.size = 32 := fun _ => by rw [hKC, List.size_toArray, bc_length, hk]
  have ZS : Unit → SC.size = 32 := fun _ => by rw [hSC, List.size_toArray, bc_length, hSl]
  have ZA : Unit → RA.size = 16 := fun _ => by rw [hRA, List.size_toArray, bc_length, hra]
  have ZB : Unit → RB.size = 16 := fun _ => by rw [hRB, List.size_toArray, bc_length, hrb]
  have OX : Unit → X.all (·.oneCell') = true := fun _ => by rw [hX]; exact PK.one _
  have OY : Unit → Y.all (·.oneCell') = true := fun _ => by rw [hY]; exact PK.one _
  have OY2 : Unit → Y2.all (·.oneCell') = true := fun _ => by rw [hY2]; exact PK.one _
  have OS : Unit → SC.all (·.oneCell') = true := fun _ => by rw [hSC]; exact bc_all _
  have HK := fun _ : Unit => hk
  have HRAL := fun _ : Unit => hra
  have HRBL := fun _ : Unit => hrb
  have KH := fun _ : Unit => hHok
  have KA := fun _ : Unit => hAok
  have KA2 := fun _ : Unit => hA2ok
  have B1 := fun _ : Unit => hses
  have B2 := fun _ : Unit => hep
  have B3 := fun _ : Unit => hep2
  rw [← hKC, ← hRA, ← hRB]
  clear hG hk hra hrb hses hep hep2 hHok hAok hA2ok hH hA hA2 hS hSl hX hY hY2 hKC hRA hRB hSC
  go_enter Tryd.func7, Tryd.ntmps7
  go_wp2_with fail
  generalize hw1 : World.alloc (World.alloc (World.alloc w _) _) _ = w1
  have b0 : Hid (Blk w1 w.heap.size 31 KC) := by show Blk _ _ _ _; rw [← hw1]; exact ((Blk.new _ _ _).alloc _).alloc _
  have b1 : Hid (Blk w1 (w.heap.size + 1) 24 RA) := by show Blk _ _ _ _; rw [← hw1]; exact (Blk.newAt _ _ (by simp)).alloc _
  have b2 : Hid (Blk w1 (w.heap.size + 2) 24 RB) := by show Blk _ _ _ _; rw [← hw1]; exact Blk.newAt _ _ (by simp)
  have n1 : NewMem w w1 := by rw [← hw1]; exact ((NewMem.alloc _ _).more _).more _
  clear hw1
  refine (lives_calls _ (HG.out.below n1)).mono ?_
  rintro e w2 ⟨rfl, hb2⟩
  have b0 := Lib.hid (b0.out.below hb2)
  have b1 := Lib.hid (b1.out.below hb2)
  have b2 := Lib.hid (b2.out.below hb2)
  have n2 : NewMem w w2 := NewMem.trans _ _ _ n1 hb2
  clear n1 hb2
  by_cases h1 : ses = 0
  · subst h1
    go_wp2_with fail
    go_ret
    exact ⟨rfl, n2⟩
  have q1 : ((ses : Int) == 0) = false := by simpa using h1
  by_cases h2 : ep = 0
  · subst h2
    go_wp2_with fail
    go_ret
    exact ⟨rfl, n2⟩
  have q2 : ((ep : Int) == 0) = false := by simpa using h2
  by_cases h3 : ep2 = 0
  · subst h3
    go_wp2_with fail
    go_ret
    exact ⟨rfl, n2⟩
  have q3 : ((ep2 : Int) == 0) = false := by simpa using h3
  have P1 : 0 < ses := by omega
  have P2 : 0 < ep := by omega
  have P3 : 0 < ep2 := by omega
  clear h1 h2 h3
  go_wp2_with (first | (refine at_slot 41 ?_; refine wpList_load_row rfl 31 _ rfl (w.heap.size) rfl _ KC (0, 0) _ (b0.out) Tryd.underlying31 rfl (by rw [ZK ()]; kernel_rfl) ?_) | (refine at_slot 42 ?_; refine wpList_load_row rfl 24 _ rfl (w.heap.size + 1) rfl _ RA (0, 0) _ (b1.out) Tryd.underlying24 rfl (by rw [ZA ()]; kernel_rfl) ?_))
  clear q1 q2 q3
  rw [HKC (), HRA ()]
  refine (hello_calls key (HK ()) 5 (by omega) ra (HRAL ()) _ (HG.out.below n2)).mono ?_
  rw [C1 (), C2 (), ← HX (), ← HKC (), ← HRA ()]
  rintro e w3 ⟨rfl, hb3⟩
  have b0 := Lib.hid (b0.out.below hb3)
  have b2 := Lib.hid (b2.out.below hb3)
  have n3 : NewMem w w3 := NewMem.trans _ _ _ n2 hb3
  clear n2 hb3 b1
  obtain ⟨g1, hg1⟩ : ∃ g, g = w3.heap.size := ⟨_, rfl⟩
  have l0 : w.heap.size < w3.heap.size := b0.out.lt
  have l2 : w.heap.size + 2 < w3.heap.size := b2.out.lt
  go_wp2_with (first | (refine at_store 27 ?_; refine wpList_store_row rfl 27 _ _ rfl (w3.heap.size) X rfl rfl _ _ (Blk.new _ _ _) (by rw [ZX ()]; kernel_rfl) (by rw [ZX ()]; rfl) (OX ()) ?_) | (refine at_slot 47 ?_; refine wpList_load_row rfl 31 _ rfl (w.heap.size) rfl _ KC (0, 0) _ ((b0.out.alloc _).setRow_far (by omega) _) Tryd.underlying31 rfl (by rw [ZK ()]; kernel_rfl) ?_) | (refine at_slot 48 ?_; refine wpList_load_row rfl 27 _ rfl (w3.heap.size) rfl _ X (0, 0) _ ((Blk.new _ _ _).setRow _) Tryd.underlying27 rfl (by rw [ZX ()]; kernel_rfl) ?_) | (refine at_slot 51 ?_; refine wpList_load_row rfl 24 _ rfl (w.heap.size + 2) rfl _ RB (0, 0) _ ((b2.out.alloc _).setRow_far (by omega) _) Tryd.underlying24 rfl (by rw [ZB ()]; kernel_rfl) ?_))
  generalize hw4 : World.setRow _ _ _ = w4
  have n34 : NewMem w3 w4 := by rw [← hw4]; exact below_setRow_own (NewMem.alloc _ _) (Nat.le_refl _) _
  have b3 : Hid (Blk w4 g1 27 X) := by show Blk _ _ _ _; rw [← hw4, hg1]; exact (Blk.new _ _ zPK.X).setRow _
  have b0 := Lib.hid (b0.out.below n34)
  have b2 := Lib.hid (b2.out.below n34)
  have n4 : NewMem w w4 := NewMem.trans _ _ _ n3 n34
  rw [← hg1]
  clear hw4 n34 n3 hg1 l0 l2
  rw [HKC (), HRB (), HX ()]
  refine (answer_calls key (HK ()) H (KH ()) ses ep (B1 ()) (B2 ()) rb (HRBL ()) _ (HG.out.below n4)).mono ?_
  rw [(C3 () P1 P2).1, (C3 () P1 P2).2.1, (C3 () P1 P2).2.2.1, ← HX (), ← HKC (), ← HRB (), ← HY (), ← HSC ()]
  rintro e w5 ⟨rfl, hb5⟩
  have b0 := Lib.hid (b0.out.below hb5)
  have b2 := Lib.hid (b2.out.below hb5)
  have b3 := Lib.hid (b3.out.below hb5)
  have n5 : NewMem w w5 := NewMem.trans _ _ _ n4 hb5
  clear n4 hb5
  obtain ⟨g2, hg2⟩ : ∃ g, g = w5.heap.size := ⟨_, rfl⟩
  have l0 : w.heap.size < w5.heap.size := b0.out.lt
  have l2 : w.heap.size + 2 < w5.heap.size := b2.out.lt
  have l3 : g1 < w5.heap.size := b3.out.lt
  go_wp2_with (first | (refine at_store 27 ?_; refine wpList_store_row rfl 27 _ _ rfl (w5.heap.size) Y rfl rfl _ _ ((Blk.new _ _ _).alloc _) (by rw [ZY ()]; kernel_rfl) (by rw [ZY ()]; rfl) (OY ()) ?_) | (refine at_store 31 ?_; refine wpList_store_row rfl 31 _ _ rfl (w5.heap.size + 1) SC rfl rfl _ _ ((Blk.newAt _ _ (by simp)).setRow_far (by omega) _) (by rw [ZS ()]; kernel_rfl) (by rw [ZS ()]; rfl) (OS ()) ?_) | (refine at_slot 57 ?_; refine wpList_load_row rfl 31 _ rfl (w.heap.size) rfl _ KC (0, 0) _ ((((b0.out.alloc _).alloc _).setRow_far (by omega) _).setRow_far (by omega) _) Tryd.underlying31 rfl (by rw [ZK ()]; kernel_rfl) ?_) | (refine at_slot 58 ?_; refine wpList_load_row rfl 27 _ rfl (g1) rfl _ X (0, 0) _ ((((b3.out.alloc _).alloc _).setRow_far (by omega) _).setRow_far (by omega) _) Tryd.underlying27 rfl (by rw [ZX ()]; kernel_rfl) ?_) | (refine at_slot 61 ?_; refine wpList_load_row rfl 24 _ rfl (w.heap.size + 2) rfl _ RB (0, 0) _ ((((b2.out.alloc _).alloc _).setRow_far (by omega) _).setRow_far (by omega) _) Tryd.underlying24 rfl (by rw [ZB ()]; kernel_rfl) ?_))
  generalize hw6 : World.setRow (World.setRow _ _ _) _ _ = w6
  have n56 : NewMem w5 w6 := by rw [← hw6]; exact below_setRow_own (below_setRow_own ((NewMem.alloc _ _).more _) (Nat.le_refl _) _) (by omega) _
  have b4 : Hid (Blk w6 g2 27 Y) := by show Blk _ _ _ _; rw [← hw6, hg2]; exact (((Blk.new w5 _ zPK.X).alloc _).setRow _).setRow_far (by omega) _
  have b5 : Hid (Blk w6 (g2 + 1) 31 SC) := by show Blk _ _ _ _; rw [← hw6, hg2]; exact ((Blk.newAt (w := World.alloc w5 _) _ (bc Z32).toArray (by simp)).setRow_far (by omega) _).setRow _
  have b0 := Lib.hid (b0.out.below n56)
  have b2 := Lib.hid (b2.out.below n56)
  have b3 := Lib.hid (b3.out.below n56)
  have n6 : NewMem w w6 := NewMem.trans _ _ _ n5 n56
  rw [← hg2]
  clear hw6 n56 n5 hg2 l0 l2 l3
  rw [HKC (), HRB (), HX ()]
  refine (answer_calls key (HK ()) H (KH ()) ses ep2 (B1 ()) (B3 ()) rb (HRBL ()) _ (HG.out.below n6)).mono ?_
  rw [(C4 () P1 P3).1, (C4 () P1 P3).2.1, (C4 () P1 P3).2.2.1, ← HX (), ← HKC (), ← HRB (), ← HY2 (), ← HSC ()]
  rintro e w7 ⟨rfl, hb7⟩
  have b0 := Lib.hid (b0.out.below hb7)
  have b2 := Lib.hid (b2.out.below hb7)
  have b3 := Lib.hid (b3.out.below hb7)
  have b4 := Lib.hid (b4.out.below hb7)
  have b5 := Lib.hid (b5.out.below hb7)
  have n7 : NewMem w w7 := NewMem.trans _ _ _ n6 hb7
  clear n6 hb7
  obtain ⟨g3, hg3⟩ : ∃ g, g = w7.heap.size := ⟨_, rfl⟩
  have l0 : w.heap.size < w7.heap.size := b0.out.lt
  have l2 : w.heap.size + 2 < w7.heap.size := b2.out.lt
  have l3 : g1 < w7.heap.size := b3.out.lt
  go_wp2_with (first | (refine at_store 27 ?_; refine wpList_store_row rfl 27 _ _ rfl (w7.heap.size) Y2 rfl rfl _ _ ((Blk.new _ _ _).alloc _) (by rw [ZY2 ()]; kernel_rfl) (by rw [ZY2 ()]; rfl) (OY2 ()) ?_) | (refine at_store 31 ?_; refine wpList_store_row rfl 31 _ _ rfl (w7.heap.size + 1) SC rfl rfl _ _ ((Blk.newAt _ _ (by simp)).setRow_far (by omega) _) (by rw [ZS ()]; kernel_rfl) (by rw [ZS ()]; rfl) (OS ()) ?_) | (refine at_slot 67 ?_; refine wpList_load_row rfl 31 _ rfl (w.heap.size) rfl _ KC (0, 0) _ ((((b0.out.alloc _).alloc _).setRow_far (by omega) _).setRow_far (by omega) _) Tryd.underlying31 rfl (by rw [ZK ()]; kernel_rfl) ?_) | (refine at_slot 68 ?_; refine wpList_load_row rfl 27 _ rfl (g1) rfl _ X (0, 0) _ ((((b3.out.alloc _).alloc _).setRow_far (by omega) _).setRow_far (by omega) _) Tryd.underlying27 rfl (by rw [ZX ()]; kernel_rfl) ?_) | (refine at_slot 71 ?_; refine wpList_load_row rfl 24 _ rfl (w.heap.size + 2) rfl _ RB (0, 0) _ ((((b2.out.alloc _).alloc _).setRow_far (by omega) _).setRow_far (by omega) _) Tryd.underlying24 rfl (by rw [ZB ()]; kernel_rfl) ?_))
  generalize hw8 : World.setRow (World.setRow _ _ _) _ _ = w8
  have n78 : NewMem w7 w8 := by rw [← hw8]; exact below_setRow_own (below_setRow_own ((NewMem.alloc _ _).more _) (Nat.le_refl _) _) (by omega) _
  have b6 : Hid (Blk w8 g3 27 Y2) := by show Blk _ _ _ _; rw [← hw8, hg3]; exact (((Blk.new w7 _ zPK.X).alloc _).setRow _).setRow_far (by omega) _
  have b7 : Hid (Blk w8 (g3 + 1) 31 SC) := by show Blk _ _ _ _; rw [← hw8, hg3]; exact ((Blk.newAt (w := World.alloc w7 _) _ (bc Z32).toArray (by simp)).setRow_far (by omega) _).setRow _
  have b0 := Lib.hid (b0.out.below n78)
  have b2 := Lib.hid (b2.out.below n78)
  have b3 := Lib.hid (b3.out.below n78)
  have b4 := Lib.hid (b4.out.below n78)
  have b5 := Lib.hid (b5.out.below n78)
  have n8 : NewMem w w8 := NewMem.trans _ _ _ n7 n78
  rw [← hg3]
  clear hw8 n78 n7 hg3 l0 l2 l3
  rw [HKC (), HRB (), HX ()]
  refine (answer_calls key (HK ()) H (KH ()) ses ep (B1 ()) (B2 ()) rb (HRBL ()) _ (HG.out.below n8)).mono ?_
  rw [(C3 () P1 P2).1, (C3 () P1 P2).2.1, (C3 () P1 P2).2.2.1, ← HX (), ← HKC (), ← HRB (), ← HY (), ← HSC ()]
  rintro e w9 ⟨rfl, hb9⟩
  have b0 := Lib.hid (b0.out.below hb9)
  have b3 := Lib.hid (b3.out.below hb9)
  have b4 := Lib.hid (b4.out.below hb9)
  have b5 := Lib.hid (b5.out.below hb9)
  have b6 := Lib.hid (b6.out.below hb9)
  have b7 := Lib.hid (b7.out.below hb9)
  have n9 : NewMem w w9 := NewMem.trans _ _ _ n8 hb9
  clear n8 hb9 b2
  obtain ⟨g4, hg4⟩ : ∃ g, g = w9.heap.size := ⟨_, rfl⟩
  have l0 : w.heap.size < w9.heap.size := b0.out.lt
  have l3 : g1 < w9.heap.size := b3.out.lt
  have l4 : g2 < w9.heap.size := b4.out.lt
  have l5 : g2 + 1 < w9.heap.size := b5.out.lt
  have l6 : g3 < w9.heap.size := b6.out.lt
  have l7 : g3 + 1 < w9.heap.size := b7.out.lt
  go_wp2_with (first | (refine at_store 27 ?_; refine wpList_store_row rfl 27 _ _ rfl (w9.heap.size) Y rfl rfl _ _ ((Blk.new _ _ _).alloc _) (by rw [ZY ()]; kernel_rfl) (by rw [ZY ()]; rfl) (OY ()) ?_) | (refine at_store 31 ?_; refine wpList_store_row rfl 31 _ _ rfl (w9.heap.size + 1) SC rfl rfl _ _ ((Blk.newAt _ _ (by simp)).setRow_far (by omega) _) (by rw [ZS ()]; kernel_rfl) (by rw [ZS ()]; rfl) (OS ()) ?_) | (refine at_slot 91 ?_; refine wpList_load_rd_if rfl 31 _ rfl ⟨g2 + 1, 0, none⟩ rfl SC.toList _ (blk_cells' ((((b5.out.alloc _).alloc _).setRow_far (by omega) _).setRow_far (by omega) _)) Tryd.underlying31 rfl (by rw [Array.length_toList, ZS ()]; kernel_rfl) ?_; rw [Array.toArray_toList]) | (refine at_slot 92 ?_; refine wpList_load_rd_if rfl 31 _ rfl ⟨g3 + 1, 0, none⟩ rfl SC.toList _ (blk_cells' ((((b7.out.alloc _).alloc _).setRow_far (by omega) _).setRow_far (by omega) _)) Tryd.underlying31 rfl (by rw [Array.length_toList, ZS ()]; kernel_rfl) ?_; rw [Array.toArray_toList]) | (refine at_slot 96 ?_; refine wpList_load_rd_if rfl 31 _ rfl ⟨g2 + 1, 0, none⟩ rfl SC.toList _ (blk_cells' ((((b5.out.alloc _).alloc _).setRow_far (by omega) _).setRow_far (by omega) _)) Tryd.underlying31 rfl (by rw [Array.length_toList, ZS ()]; kernel_rfl) ?_; rw [Array.toArray_toList]) | (refine at_slot 97 ?_; refine wpList_load_rd_if rfl 31 _ rfl ⟨w9.heap.size + 1, 0, none⟩ rfl SC.toList _ (blk_cells' (((Blk.newAt (w := World.alloc w9 _) _ _ (by simp)).setRow_far (by omega) _).setRow _)) Tryd.underlying31 rfl (by rw [Array.length_toList, ZS ()]; kernel_rfl) ?_; rw [Array.toArray_toList]) | (refine at_slot 101 ?_; refine wpList_load_rd_if rfl 27 _ rfl ⟨w9.heap.size, 0, none⟩ rfl Y.toList _ (blk_cells' ((((Blk.new w9 _ _).alloc _).setRow _).setRow_far (by omega) _)) Tryd.underlying27 rfl (by rw [Array.length_toList, ZY ()]; kernel_rfl) ?_; rw [Array.toArray_toList]) | (refine at_slot 102 ?_; refine wpList_load_rd_if rfl 27 _ rfl ⟨g2, 0, none⟩ rfl Y.toList _ (blk_cells' ((((b4.out.alloc _).alloc _).setRow_far (by omega) _).setRow_far (by omega) _)) Tryd.underlying27 rfl (by rw [Array.length_toList, ZY ()]; kernel_rfl) ?_; rw [Array.toArray_toList]))
  generalize hw10 : World.setRow (World.setRow _ _ _) _ _ = w10
  have n910 : NewMem w9 w10 := by rw [← hw10]; exact below_setRow_own (below_setRow_own ((NewMem.alloc _ _).more _) (Nat.le_refl _) _) (by omega) _
  have b0 := Lib.hid (b0.out.below n910)
  have b3 := Lib.hid (b3.out.below n910)
  have b4 := Lib.hid (b4.out.below n910)
  have b5 := Lib.hid (b5.out.below n910)
  have b6 := Lib.hid (b6.out.below n910)
  have b7 := Lib.hid (b7.out.below n910)
  have n10 : NewMem w w10 := NewMem.trans _ _ _ n9 n910
  clear hw10 n910 n9 hg4 l0 l3 l4 l5 l6 l7
  rw [HY ()]
  refine (PS () _).mono ?_
  rw [← HY ()]
  rintro e w11 ⟨rfl, hb11⟩
  have b0 := Lib.hid (b0.out.below hb11)
  have b3 := Lib.hid (b3.out.below hb11)
  have b4 := Lib.hid (b4.out.below hb11)
  have b5 := Lib.hid (b5.out.below hb11)
  have b6 := Lib.hid (b6.out.below hb11)
  have b7 := Lib.hid (b7.out.below hb11)
  have n11 : NewMem w w11 := NewMem.trans _ _ _ n10 hb11
  clear n10 hb11
  go_wp2_with (first | (refine at_slot 107 ?_; refine wpList_load_row rfl 31 _ rfl (w.heap.size) rfl _ KC (0, 0) _ (b0.out) Tryd.underlying31 rfl (by rw [ZK ()]; kernel_rfl) ?_) | (refine at_slot 108 ?_; refine wpList_load_row rfl 27 _ rfl (g1) rfl _ X (0, 0) _ (b3.out) Tryd.underlying27 rfl (by rw [ZX ()]; kernel_rfl) ?_) | (refine at_slot 109 ?_; refine wpList_load_row rfl 27 _ rfl (g2) rfl _ Y (0, 0) _ (b4.out) Tryd.underlying27 rfl (by rw [ZY ()]; kernel_rfl) ?_))
  rw [HKC (), HX (), HY ()]
  refine (canswer_calls key (HK ()) H A (KH ()) (KA ()) _ (HG.out.below n11)).mono ?_
  rw [(C3 () P1 P2).2.2.2.1, (C3 () P1 P2).2.2.2.2, ← HKC (), ← HX (), ← HY (), ← HSC ()]
  rintro e w12 ⟨rfl, hb12⟩
  have b0 := Lib.hid (b0.out.below hb12)
  have b3 := Lib.hid (b3.out.below hb12)
  have b5 := Lib.hid (b5.out.below hb12)
  have b6 := Lib.hid (b6.out.below hb12)
  have n12 : NewMem w w12 := NewMem.trans _ _ _ n11 hb12
  clear n11 hb12 b4 b7
  obtain ⟨g5, hg5⟩ : ∃ g, g = w12.heap.size := ⟨_, rfl⟩
  have l0 : w.heap.size < w12.heap.size := b0.out.lt
  have l3 : g1 < w12.heap.size := b3.out.lt
  have l6 : g3 < w12.heap.size := b6.out.lt
  go_wp2_with (first | (refine at_store 31 ?_; refine wpList_store_row rfl 31 _ _ rfl (w12.heap.size) SC rfl rfl _ _ (Blk.new _ _ _) (by rw [ZS ()]; kernel_rfl) (by rw [ZS ()]; rfl) (OS ()) ?_) | (refine at_slot 114 ?_; refine wpList_load_row rfl 31 _ rfl (w.heap.size) rfl _ KC (0, 0) _ ((b0.out.alloc _).setRow_far (by omega) _) Tryd.underlying31 rfl (by rw [ZK ()]; kernel_rfl) ?_) | (refine at_slot 115 ?_; refine wpList_load_row rfl 27 _ rfl (g1) rfl _ X (0, 0) _ ((b3.out.alloc _).setRow_far (by omega) _) Tryd.underlying27 rfl (by rw [ZX ()]; kernel_rfl) ?_) | (refine at_slot 116 ?_; refine wpList_load_row rfl 27 _ rfl (g3) rfl _ Y2 (0, 0) _ ((b6.out.alloc _).setRow_far (by omega) _) Tryd.underlying27 rfl (by rw [ZY2 ()]; kernel_rfl) ?_))
  generalize hw13 : World.setRow _ _ _ = w13
  have n1213 : NewMem w12 w13 := by rw [← hw13]; exact below_setRow_own (NewMem.alloc _ _) (Nat.le_refl _) _
  have b8 : Hid (Blk w13 g5 31 SC) := by show Blk _ _ _ _; rw [← hw13, hg5]; exact (Blk.new w12 _ (bc Z32).toArray).setRow _
  have b5 := Lib.hid (b5.out.below n1213)
  have n13 : NewMem w w13 := NewMem.trans _ _ _ n12 n1213
  rw [← hg5]
  clear hw13 n1213 n12 hg5 l0 l3 l6 b0 b3 b6
  rw [HKC (), HX (), HY2 ()]
  refine (canswer_calls key (HK ()) H A2 (KH ()) (KA2 ()) _ (HG.out.below n13)).mono ?_
  rw [(C4 () P1 P3).2.2.2.1, (C4 () P1 P3).2.2.2.2, ← HKC (), ← HX (), ← HY2 (), ← HSC ()]
  rintro e w14 ⟨rfl, hb14⟩
  have b5 := Lib.hid (b5.out.below hb14)
  have b8 := Lib.hid (b8.out.below hb14)
  have n14 : NewMem w w14 := NewMem.trans _ _ _ n13 hb14
  clear n13 hb14
  have l5 : g2 + 1 < w14.heap.size := b5.out.lt
  have l8 : g5 < w14.heap.size := b8.out.lt
  go_wp2_with (first | (refine at_store 31 ?_; refine wpList_store_row rfl 31 _ _ rfl (w14.heap.size) SC rfl rfl _ _ (Blk.new _ _ _) (by rw [ZS ()]; kernel_rfl) (by rw [ZS ()]; rfl) (OS ()) ?_) | (refine at_slot 127 ?_; refine wpList_load_rd_if rfl 31 _ rfl ⟨g5, 0, none⟩ rfl SC.toList _ (blk_cells' ((b8.out.alloc _).setRow_far (by omega) _)) Tryd.underlying31 rfl (by rw [Array.length_toList, ZS ()]; kernel_rfl) ?_; rw [Array.toArray_toList]) | (refine at_slot 128 ?_; refine wpList_load_rd_if rfl 31 _ rfl ⟨g2 + 1, 0, none⟩ rfl SC.toList _ (blk_cells' ((b5.out.alloc _).setRow_far (by omega) _)) Tryd.underlying31 rfl (by rw [Array.length_toList, ZS ()]; kernel_rfl) ?_; rw [Array.toArray_toList]) | (refine at_slot 132 ?_; refine wpList_load_rd_if rfl 31 _ rfl ⟨w14.heap.size, 0, none⟩ rfl SC.toList _ (blk_cells' ((Blk.new w14 _ _).setRow _)) Tryd.underlying31 rfl (by rw [Array.length_toList, ZS ()]; kernel_rfl) ?_; rw [Array.toArray_toList]) | (refine at_slot 133 ?_; refine wpList_load_rd_if rfl 31 _ rfl ⟨g2 + 1, 0, none⟩ rfl SC.toList _ (blk_cells' ((b5.out.alloc _).setRow_far (by omega) _)) Tryd.underlying31 rfl (by rw [Array.length_toList, ZS ()]; kernel_rfl) ?_; rw [Array.toArray_toList]))
  go_ret
  exact ⟨rfl, below_setRow_own (n14.more _) (by have := n14.size; omega) _⟩
end Go.Proofs.YtbhaekdfpfncnaaDoor
