/- The law ShakeBoth, walked. (under way) -/
import Derived.Test.YtbhaekdfpfncnaaDoorBoA
import Derived.Test.YtbhaekdfpfncnaaDoorShakeAgainW
namespace Go.Proofs.YtbhaekdfpfncnaaDoor
set_option linter.unusedVariables false
set_option linter.unusedSimpArgs false
open Go.RowKit

set_option maxRecDepth 4000 in
set_option maxHeartbeats 8000000 in
theorem both_calls (key : List UInt8) (hk : key.length = 32) (n : Int) (hn64 : -9223372036854775808 ≤ n ∧ n ≤ 9223372036854775807) (ra rb mk : List UInt8) (hra : ra.length = 16) (hrb : rb.length = 16) (hmk : mk.length = 16) (ses ep : Nat) (hses : ses < 18446744073709551616) (hep : ep < 4294967296) (w : World) (hG : Glb w) :
    Calls Tryd.prog 5 #[.agg (bc key).toArray, .int .i64 n, .agg (bc ra).toArray, .agg (bc rb).toArray, .int .u64 (ses : Int), .int .u32 (ep : Int), .agg (bc mk).toArray] w fun e w' => e = .returned (.bool true) ∧ Below w.heap.size w w' := by
  have HG := Lib.hid hG
  obtain ⟨KC, hKC⟩ : ∃ X, X = (bc key).toArray := ⟨_, rfl⟩
  obtain ⟨RA, hRA⟩ : ∃ X, X = (bc ra).toArray := ⟨_, rfl⟩
  obtain ⟨RB, hRB⟩ : ∃ X, X = (bc rb).toArray := ⟨_, rfl⟩
  obtain ⟨MC, hMC⟩ : ∃ X, X = (bc mk).toArray := ⟨_, rfl⟩
  have HKC := fun _ : Unit => hKC
  have HRA := fun _ : Unit => hRA
  have HRB := fun _ : Unit => hRB
  have HMC := fun _ : Unit => hMC
  have ZK : Unit → KC.size = 32 := fun _ => by rw [hKC, List.size_toArray, bc_length, hk]
  have ZA : Unit → RA.size = 16 := fun _ => by rw [hRA, List.size_toArray, bc_length, hra]
  have ZB : Unit → RB.size = 16 := fun _ => by rw [hRB, List.size_toArray, bc_length, hrb]
  have ZM : Unit → MC.size = 16 := fun _ => by rw [hMC, List.size_toArray, bc_length, hmk]
  have HK := fun _ : Unit => hk
  have HRAL := fun _ : Unit => hra
  have HRBL := fun _ : Unit => hrb
  have HMKL := fun _ : Unit => hmk
  have B1 := fun _ : Unit => hses
  have B2 := fun _ : Unit => hep
  have B3 := fun _ : Unit => hn64
  have B2i := B2
  have ZZP : Unit → zPK.X.size = 38 := fun _ => rfl
  have B3i := B3
  rw [← hKC, ← hRA, ← hRB, ← hMC]
  clear hG hk hra hrb hmk hses hep hn64 hKC hRA hRB hMC
  go_enter Tryd.func5, Tryd.ntmps5
  go_wp2_with fail
  generalize hw1 : World.alloc (World.alloc (World.alloc (World.alloc w _) _) _) _ = w1
  have b0 : Hid (Blk w1 w.heap.size 31 KC) := by show Blk _ _ _ _; rw [← hw1]; exact (((Blk.new _ _ _).alloc _).alloc _).alloc _
  have b1 : Hid (Blk w1 (w.heap.size + 1) 24 RA) := by show Blk _ _ _ _; rw [← hw1]; exact ((Blk.newAt _ _ (by simp)).alloc _).alloc _
  have b2 : Hid (Blk w1 (w.heap.size + 2) 24 RB) := by show Blk _ _ _ _; rw [← hw1]; exact (Blk.newAt _ _ (by simp)).alloc _
  have b3 : Hid (Blk w1 (w.heap.size + 3) 24 MC) := by show Blk _ _ _ _; rw [← hw1]; exact Blk.newAt _ _ (by simp)
  have n1 : NewMem w w1 := by rw [← hw1]; exact (((NewMem.alloc _ _).more _).more _).more _
  clear hw1
  refine (lives_calls _ (HG.out.below n1)).mono ?_
  rintro e w2 ⟨rfl, hb2⟩
  have b0 := Lib.hid (b0.out.below hb2)
  have b1 := Lib.hid (b1.out.below hb2)
  have b2 := Lib.hid (b2.out.below hb2)
  have b3 := Lib.hid (b3.out.below hb2)
  have n2 : NewMem w w2 := NewMem.trans _ _ _ n1 hb2
  clear n1 hb2
  go_wp2_with (first | (refine at_slot 31 ?_; refine wpList_load_row rfl 31 _ rfl (w.heap.size) rfl _ KC (0, 0) _ (b0.out) Tryd.underlying31 rfl (by rw [ZK ()]; kernel_rfl) ?_) | (refine at_slot 33 ?_; refine wpList_load_row rfl 24 _ rfl (w.heap.size + 1) rfl _ RA (0, 0) _ (b1.out) Tryd.underlying24 rfl (by rw [ZA ()]; kernel_rfl) ?_))
  rw [HKC (), HRA ()]
  refine (hello_calls key (HK ()) n (B3 ()) ra (HRAL ()) _ (HG.out.below n2)).mono ?_
  rw [bo_helE, ← HKC (), ← HRA ()]
  rintro e w3 ⟨rfl, hb3⟩
  have n3 : NewMem w w3 := NewMem.trans _ _ _ n2 hb3
  have b0 := Lib.hid (b0.out.below hb3)
  have b2 := Lib.hid (b2.out.below hb3)
  have b3 := Lib.hid (b3.out.below hb3)
  clear n2 hb3 b1
  obtain ⟨X, hX⟩ : ∃ X, X = (helP key n ra).X := ⟨_, rfl⟩
  have hXs : X.size = 38 := by rw [hX]; exact PK.size (helP_ok (B3 ()) (HRAL ()))
  have hX1 : X.all (·.oneCell') = true := by rw [hX]; exact PK.one _
  have HX := fun _ : Unit => hX
  have ZX := fun _ : Unit => hXs
  have OX := fun _ : Unit => hX1
  rw [← hX]
  clear hX hXs hX1
  have l0 : w.heap.size < w3.heap.size := b0.out.lt
  have l2 : w.heap.size + 2 < w3.heap.size := b2.out.lt
  cases hn : okN n
  · simp only [resN]
    by_cases h1 : 1 ≤ n
    · have h2 : ¬ n ≤ 65536 := by intro h2; simp [okN, h1, h2] at hn
      have q1 : decide (1 ≤ n) = true := decide_eq_true h1
      have q2 : decide (n ≤ 65536) = false := decide_eq_false h2
      go_wp2_with (first | (refine at_store 27 ?_; refine wpList_store_row rfl 27 _ _ rfl (w3.heap.size) X rfl rfl _ _ (Blk.new _ _ _) (by rw [ZX ()]; kernel_rfl) (by rw [ZX ()]; rfl) (OX ()) ?_))
      go_ret
      exact ⟨rfl, below_setRow_own (n3.more _) (by omega) _⟩
    · have q1 : decide (1 ≤ n) = false := decide_eq_false h1
      go_wp2_with (first | (refine at_store 27 ?_; refine wpList_store_row rfl 27 _ _ rfl (w3.heap.size) X rfl rfl _ _ (Blk.new _ _ _) (by rw [ZX ()]; kernel_rfl) (by rw [ZX ()]; rfl) (OX ()) ?_))
      go_ret
      exact ⟨rfl, below_setRow_own (n3.more _) (by omega) _⟩
  · have HN := fun _ : Unit => hn
    have q1 : decide (1 ≤ n) = true := by
      have := hn
      unfold okN at this
      rw [Bool.and_eq_true] at this
      exact this.1
    have q2 : decide (n ≤ 65536) = true := by
      have := hn
      unfold okN at this
      rw [Bool.and_eq_true] at this
      exact this.2
    have HXB : Unit → X = (boH key ra n).X := fun _ => by rw [HX (), bo_helP _ _ _ hn]
    clear hn
    simp only [resN]
    obtain ⟨g1, hg1⟩ : ∃ g, g = w3.heap.size := ⟨_, rfl⟩
    go_wp2_with (first | (refine at_store 27 ?_; refine wpList_store_row rfl 27 _ _ rfl (w3.heap.size) X rfl rfl _ _ (Blk.new _ _ _) (by rw [ZX ()]; kernel_rfl) (by rw [ZX ()]; rfl) (OX ()) ?_) | (refine at_slot 51 ?_; refine wpList_load_row rfl 31 _ rfl (w.heap.size) rfl _ KC (0, 0) _ ((b0.out.alloc _).setRow_far (by omega) _) Tryd.underlying31 rfl (by rw [ZK ()]; kernel_rfl) ?_) | (refine at_slot 52 ?_; refine wpList_load_row rfl 27 _ rfl (w3.heap.size) rfl _ X (0, 0) _ ((Blk.new _ _ _).setRow _) Tryd.underlying27 rfl (by rw [ZX ()]; kernel_rfl) ?_) | (refine at_slot 55 ?_; refine wpList_load_row rfl 24 _ rfl (w.heap.size + 2) rfl _ RB (0, 0) _ ((b2.out.alloc _).setRow_far (by omega) _) Tryd.underlying24 rfl (by rw [ZB ()]; kernel_rfl) ?_))
    generalize hw4 : World.setRow _ _ _ = w4
    have n34 : NewMem w3 w4 := by rw [← hw4]; exact below_setRow_own (NewMem.alloc _ _) (Nat.le_refl _) _
    have b4 : Hid (Blk w4 g1 27 X) := by show Blk _ _ _ _; rw [← hw4, hg1]; exact (Blk.new _ _ zPK.X).setRow _
    have b0 := Lib.hid (b0.out.below n34)
    have b2 := Lib.hid (b2.out.below n34)
    have b3 := Lib.hid (b3.out.below n34)
    have n4 : NewMem w w4 := NewMem.trans _ _ _ n3 n34
    rw [← hg1]
    clear hw4 n34 n3 hg1 l0 l2 q1 q2
    have KH : Unit → (boH key ra n).ok := fun _ => hPK_ok (B3 ()) (HRAL ()) (helF_length _ _ _)
    rw [HKC (), HRB (), HXB ()]
    refine (answer_calls key (HK ()) (boH key ra n) (KH ()) ses ep (B1 ()) (B2 ()) rb (HRBL ()) _ (HG.out.below n4)).mono ?_
    rw [bo_anN _ _ _ _ _ _ (HN ()), ← HXB (), ← HKC (), ← HRB ()]
    rintro e w5 ⟨rfl, hb5⟩
    have b0 := Lib.hid (b0.out.below hb5)
    have b2 := Lib.hid (b2.out.below hb5)
    have b3 := Lib.hid (b3.out.below hb5)
    have b4 := Lib.hid (b4.out.below hb5)
    have n5 : NewMem w w5 := NewMem.trans _ _ _ n4 hb5
    clear n4 hb5
    have l0 : w.heap.size < w5.heap.size := b0.out.lt
    obtain ⟨Y, hY⟩ : ∃ Y, Y = (anP key (boH key ra n) ses ep rb).X := ⟨_, rfl⟩
    obtain ⟨SC, hSC⟩ : ∃ Y, Y = (bc (anS key (boH key ra n) ses ep rb)).toArray := ⟨_, rfl⟩
    have hYok : (anP key (boH key ra n) ses ep rb).ok := anP_ok (B1 ()) (B2 ()) (HRBL ())
    have ZY : Unit → Y.size = 38 := fun _ => by rw [hY]; exact PK.size hYok
    have OY : Unit → Y.all (·.oneCell') = true := fun _ => by rw [hY]; exact PK.one _
    have ZS : Unit → SC.size = 32 := fun _ => by rw [hSC, List.size_toArray, bc_length, anS_length]
    have OS : Unit → SC.all (·.oneCell') = true := fun _ => by rw [hSC]; exact bc_all _
    have HY := fun _ : Unit => hY
    have HSC := fun _ : Unit => hSC
    rw [← hY, ← hSC]
    clear hY hSC hYok
    cases ho : (decide (1 ≤ ses) && decide (1 ≤ ep))
    · have hz : SC = (bc Z32).toArray := by rw [HSC (), bo_anS0 _ _ _ _ _ _ (HN ()) ho]
      have heq := fun (w : World) => eq32 w Z32 Z32 rfl rfl
      rw [show decide (Z32 = Z32) = true from decide_eq_true rfl, ← hz] at heq
      have HZZ : Unit → Program.built Tryd.prog 31 [] = some SC := fun _ => by rw [hz]; exact built_z32
      simp only [resN]
      clear hz
      by_cases h1 : 1 ≤ ses
      · have h2 : ¬ 1 ≤ ep := by intro h2; simp [h1, h2] at ho
        have q1 : decide ((0 : Int) < (ses : Int)) = true := by simp; omega
        have q2 : decide ((0 : Int) < (ep : Int)) = false := by simp; omega
        go_wp2_with (first | (refine at_store 27 ?_; refine wpList_store_row rfl 27 _ _ rfl (w5.heap.size) Y rfl rfl _ _ ((Blk.new _ _ _).alloc _) (by rw [ZY ()]; kernel_rfl) (by rw [ZY ()]; rfl) (OY ()) ?_) | (refine at_store 31 ?_; refine wpList_store_row rfl 31 _ _ rfl (w5.heap.size + 1) SC rfl rfl _ _ ((Blk.newAt _ _ (by simp)).setRow_far (by omega) _) (by rw [ZS ()]; kernel_rfl) (by rw [ZS ()]; rfl) (OS ()) ?_) | (refine at_slot 71 ?_; refine wpList_load_row rfl 31 _ rfl (w5.heap.size + 1) rfl _ SC (0, 0) _ (((Blk.newAt (w := World.alloc w5 _) _ _ (by simp)).setRow_far (by omega) _).setRow _) Tryd.underlying31 rfl (by rw [ZS ()]; kernel_rfl) ?_) | (refine at_slot 72 ?_; refine wpList_build_to rfl 31 _ rfl SC (HZZ ()) ?_))
        go_ret
        exact ⟨rfl, below_setRow_own (below_setRow_own ((n5.more _).more _) (by have := n5.size; omega) _) (by have := n5.size; omega) _⟩
      · have q1 : decide ((0 : Int) < (ses : Int)) = false := by simp; omega
        go_wp2_with (first | (refine at_store 27 ?_; refine wpList_store_row rfl 27 _ _ rfl (w5.heap.size) Y rfl rfl _ _ ((Blk.new _ _ _).alloc _) (by rw [ZY ()]; kernel_rfl) (by rw [ZY ()]; rfl) (OY ()) ?_) | (refine at_store 31 ?_; refine wpList_store_row rfl 31 _ _ rfl (w5.heap.size + 1) SC rfl rfl _ _ ((Blk.newAt _ _ (by simp)).setRow_far (by omega) _) (by rw [ZS ()]; kernel_rfl) (by rw [ZS ()]; rfl) (OS ()) ?_) | (refine at_slot 71 ?_; refine wpList_load_row rfl 31 _ rfl (w5.heap.size + 1) rfl _ SC (0, 0) _ (((Blk.newAt (w := World.alloc w5 _) _ _ (by simp)).setRow_far (by omega) _).setRow _) Tryd.underlying31 rfl (by rw [ZS ()]; kernel_rfl) ?_) | (refine at_slot 72 ?_; refine wpList_build_to rfl 31 _ rfl SC (HZZ ()) ?_))
        go_ret
        exact ⟨rfl, below_setRow_own (below_setRow_own ((n5.more _).more _) (by have := n5.size; omega) _) (by have := n5.size; omega) _⟩
    · have ho2 := ho
      rw [Bool.and_eq_true, decide_eq_true_eq, decide_eq_true_eq] at ho2
      have P1 : 0 < ses := ho2.1
      have P2 : 0 < ep := ho2.2
      have q1 : decide ((0 : Int) < (ses : Int)) = true := by simp; omega
      have q2 : decide ((0 : Int) < (ep : Int)) = true := by simp; omega
      have HYB : Unit → Y = (boA key ra rb n ses ep).X := fun _ => by rw [HY (), bo_anP _ _ _ _ _ _ (HN ()) P1 P2]
      have HSB : Unit → SC = (bc (boS key ra rb ses)).toArray := fun _ => by rw [HSC (), bo_anS _ _ _ _ _ _ (HN ()) P1 P2]
      clear ho ho2
      simp only [resN]
      obtain ⟨g2, hg2⟩ : ∃ g, g = w5.heap.size := ⟨_, rfl⟩
      have l4 : g1 < w5.heap.size := b4.out.lt
      go_wp2_with (first | (refine at_store 27 ?_; refine wpList_store_row rfl 27 _ _ rfl (w5.heap.size) Y rfl rfl _ _ ((Blk.new _ _ _).alloc _) (by rw [ZY ()]; kernel_rfl) (by rw [ZY ()]; rfl) (OY ()) ?_) | (refine at_store 31 ?_; refine wpList_store_row rfl 31 _ _ rfl (w5.heap.size + 1) SC rfl rfl _ _ ((Blk.newAt _ _ (by simp)).setRow_far (by omega) _) (by rw [ZS ()]; kernel_rfl) (by rw [ZS ()]; rfl) (OS ()) ?_) | (refine at_slot 75 ?_; refine wpList_load_row rfl 31 _ rfl (w.heap.size) rfl _ KC (0, 0) _ ((((b0.out.alloc _).alloc _).setRow_far (by omega) _).setRow_far (by omega) _) Tryd.underlying31 rfl (by rw [ZK ()]; kernel_rfl) ?_) | (refine at_slot 76 ?_; refine wpList_load_row rfl 27 _ rfl (g1) rfl _ X (0, 0) _ ((((b4.out.alloc _).alloc _).setRow_far (by omega) _).setRow_far (by omega) _) Tryd.underlying27 rfl (by rw [ZX ()]; kernel_rfl) ?_) | (refine at_slot 77 ?_; refine wpList_load_row rfl 27 _ rfl (w5.heap.size) rfl _ Y (0, 0) _ ((((Blk.new w5 _ _).alloc _).setRow _).setRow_far (by omega) _) Tryd.underlying27 rfl (by rw [ZY ()]; kernel_rfl) ?_))
      generalize hw6 : World.setRow (World.setRow _ _ _) _ _ = w6
      have n56 : NewMem w5 w6 := by rw [← hw6]; exact below_setRow_own (below_setRow_own ((NewMem.alloc _ _).more _) (Nat.le_refl _) _) (by omega) _
      have b5 : Hid (Blk w6 g2 27 Y) := by show Blk _ _ _ _; rw [← hw6, hg2]; exact (((Blk.new w5 _ zPK.X).alloc _).setRow _).setRow_far (by omega) _
      have b6 : Hid (Blk w6 (g2 + 1) 31 SC) := by show Blk _ _ _ _; rw [← hw6, hg2]; exact ((Blk.newAt (w := World.alloc w5 _) _ (bc Z32).toArray (by simp)).setRow_far (by omega) _).setRow _
      have b0 := Lib.hid (b0.out.below n56)
      have b2 := Lib.hid (b2.out.below n56)
      have b3 := Lib.hid (b3.out.below n56)
      have b4 := Lib.hid (b4.out.below n56)
      have n6 : NewMem w w6 := NewMem.trans _ _ _ n5 n56
      rw [← hg2]
      clear hw6 n56 n5 hg2 l0 l4 q1 q2
      have KA : Unit → (boA key ra rb n ses ep).ok := fun _ => aPK_ok (B1 ()) (B2 ()) (HRBL ()) (ansF_length _ _ _)
      rw [HKC (), HXB (), HYB ()]
      refine (canswer_calls key (HK ()) (boH key ra n) (boA key ra rb n ses ep) (KH ()) (KA ()) _ (HG.out.below n6)).mono ?_
      rw [bo_caA _ _ _ _ _ _ (HN ()) P1 P2, bo_caSA _ _ _ _ _ _ (HN ()) P1 P2, ← HKC (), ← HXB (), ← HYB (), ← HSB ()]
      rintro e w7 ⟨rfl, hb7⟩
      have b0 := Lib.hid (b0.out.below hb7)
      have b2 := Lib.hid (b2.out.below hb7)
      have b3 := Lib.hid (b3.out.below hb7)
      have b4 := Lib.hid (b4.out.below hb7)
      have b5 := Lib.hid (b5.out.below hb7)
      have b6 := Lib.hid (b6.out.below hb7)
      have n7 : NewMem w w7 := NewMem.trans _ _ _ n6 hb7
      clear n6 hb7
      obtain ⟨g3, hg3⟩ : ∃ g, g = w7.heap.size := ⟨_, rfl⟩
      go_wp2_with (first | (refine at_store 31 ?_; refine wpList_store_row rfl 31 _ _ rfl (w7.heap.size) SC rfl rfl _ _ (Blk.new _ _ _) (by rw [ZS ()]; kernel_rfl) (by rw [ZS ()]; rfl) (OS ()) ?_))
      generalize hw8 : World.setRow _ _ _ = w8
      have n78 : NewMem w7 w8 := by rw [← hw8]; exact below_setRow_own (NewMem.alloc _ _) (Nat.le_refl _) _
      have b7 : Hid (Blk w8 g3 31 SC) := by show Blk _ _ _ _; rw [← hw8, hg3]; exact (Blk.new _ _ (bc Z32).toArray).setRow _
      have b0 := Lib.hid (b0.out.below n78)
      have b2 := Lib.hid (b2.out.below n78)
      have b3 := Lib.hid (b3.out.below n78)
      have b4 := Lib.hid (b4.out.below n78)
      have b5 := Lib.hid (b5.out.below n78)
      have b6 := Lib.hid (b6.out.below n78)
      have n8 : NewMem w w8 := NewMem.trans _ _ _ n7 n78
      rw [← hg3]
      clear hw8 n78 n7 hg3
      have hes : ∀ w : World, (Op.equalIn 10000 31 (.agg SC) (.agg SC)).run Tryd.prog w = .ok true w := fun w => by
        rw [HSB ()]
        have := eq32 w (boS key ra rb ses) (boS key ra rb ses) (boS_length _ _ _ _) (boS_length _ _ _ _)
        rwa [show decide (boS key ra rb ses = boS key ra rb ses) = true from decide_eq_true rfl] at this
      have YX2 : Unit → Y[2]? = some (.int .u64 (ses : Int)) := fun _ => by rw [HYB ()]; exact PK.x2 _
      have YX3 : Unit → Y[3]? = some (.int .u32 (ep : Int)) := fun _ => by rw [HYB ()]; exact PK.x3 _
      have XX1 : Unit → X[1]? = some (.int .i64 n) := fun _ => by rw [HXB ()]; exact PK.x1 _
      have HES := Lib.hid hes
      clear hes
      refine region_toG (T := newT) (J := noJ) newT_trans newT_refl () (fun vs W γ => vs 38 = .bool false) (by kernel_rfl) (by kernel_rfl) (by kernel_rfl) trivial ⟨prOfG
        ([ .is (.agg KC), .is (.agg X), .is (.int .i64 0), .is (.bool false), .is (.bool false), .is (.int .i64 0), .is (.bool false), .is (.bool false), .is (.bool false), .is (.agg SC), .is (.agg SC), .is (.bool false), .is (.bool false), .is (.bool false), .is (.agg SC), .is (.agg KC), .is (.agg X), .is (.agg Y), .is (.agg SC), .is (.bool false)] ++ [ .is (.bool false), .is (.bool false), .is (.pointer (some ⟨g2, 2, none⟩)), .is (.int .u64 (ses : Int)), .is (.int .u64 (ses : Int)), .is (.bool false), .is (.bool false), .is (.bool false), .is (.pointer (some ⟨g2, 3, none⟩)), .is (.int .u32 (ep : Int)), .is (.int .u32 (ep : Int)), .is (.bool false), .is (.bool false), .is (.bool false), .is (.pointer (some ⟨g1, 1, none⟩)), .is (.int .i64 n), .is (.int .i64 n), .is (.bool false), .is (.bool false)] : List (PrG newT)), prOfG_st _, no_none (by kernel_rfl), ⟨?_, ?_, ?_, ?_, ?_, ?_, ?_, ?_, ?_, ?_, ?_, ?_, ?_, ?_, ?_, ?_, ?_, ?_, ?_, ?_, ?_, ?_, ?_, ?_, ?_, ?_, ?_, ?_, ?_, ?_, ?_, ?_, ?_, ?_, ?_, ?_, ?_, ?_, ?_, trivial⟩, fun vs W γ hT hJ hp => ?_⟩ ?_
      · refine owes_plainG rfl fun dn a W γ hT hdn hdp hJ hf hd => ?_
        have e7 := hf 7 rfl
        exact step_load_row 31 _ rfl ((eval_slot _ 7).trans e7) (b0.out.below (newT_nm hT)) Tryd.underlying31 rfl (by rw [ZK ()]; kernel_rfl) ⟨γ, newT_refl _ _, trivial, rfl⟩
      · refine owes_plainG rfl fun dn a W γ hT hdn hdp hJ hf hd => ?_
        have e15 := hf 15 rfl
        exact step_load_row 27 _ rfl ((eval_slot _ 15).trans e15) (b4.out.below (newT_nm hT)) Tryd.underlying27 rfl (by rw [ZX ()]; kernel_rfl) ⟨γ, newT_refl _ _, trivial, rfl⟩
      · refine owes_plainG rfl fun dn a W γ hT hdn hdp hJ hf hd => ?_
        obtain ⟨v0, d0, rfl⟩ := hd 0 rfl
        obtain ⟨v1, d1, rfl⟩ := hd 1 rfl
        refine step_call (w' := W) (f := 12) (args := #[.agg KC, .agg X]) (by simp only [execOp]; go_simp) ?_
        rw [HKC (), HXB ()]
        refine (chello_calls key (HK ()) (boH key ra n) (KH ()) W ((HG.out.below n8).below (newT_nm hT))).mono ?_
        rintro e w' ⟨rfl, hb⟩
        exact ⟨_, rfl, γ, hb, trivial, by rw [bo_ch _ _ _ (HN ())]; rfl⟩
      · refine owes_plainG rfl fun dn a W γ hT hdn hdp hJ hf hd => ?_
        obtain ⟨v2, d2, rfl⟩ := hd 2 rfl
        exact step_val (w' := W) (by simp only [execOp]; go_simp) ⟨γ, newT_refl _ _, trivial, rfl⟩
      · refine owes_plainG rfl fun dn a W γ hT hdn hdp hJ hf hd => ?_
        obtain ⟨v3, d3, rfl⟩ := hd 3 rfl
        exact step_val (w' := W) (by simp only [execOp]; go_simp) ⟨γ, newT_refl _ _, trivial, rfl⟩
      · refine owes_ifG rfl rfl (fun v w γ h => h) fun dn a W γ hT hdn hdp hJ hf hd => ?_
        have e20 := hf 20 rfl
        exact step_val (w' := W) (by simp only [execOp]; go_simp) ⟨γ, newT_refl _ _, trivial, rfl⟩
      · refine owes_ifG rfl rfl (fun v w γ h => h) fun dn a W γ hT hdn hdp hJ hf hd => ?_
        obtain ⟨v5, d5, rfl⟩ := hd 5 rfl
        exact step_val (w' := W) (by simp only [execOp]; go_simp) ⟨γ, newT_refl _ _, trivial, rfl⟩
      · refine owes_plainG rfl fun dn a W γ hT hdn hdp hJ hf hd => ?_
        obtain ⟨v4, d4, rfl⟩ := hd 4 rfl
        obtain ⟨v6, d6, rfl⟩ := hd 6 rfl
        exact step_val (w' := W) (by simp only [execOp]; go_simp) ⟨γ, newT_refl _ _, trivial, rfl⟩
      · refine owes_plainG rfl fun dn a W γ hT hdn hdp hJ hf hd => ?_
        obtain ⟨v7, d7, rfl⟩ := hd 7 rfl
        exact step_val (w' := W) (by simp only [execOp]; go_simp) ⟨γ, newT_refl _ _, trivial, rfl⟩
      · refine owes_ifG rfl rfl (fun v w γ h => h) fun dn a W γ hT hdn hdp hJ hf hd => ?_
        have e18 := hf 18 rfl
        exact step_load_row 31 _ rfl ((eval_slot _ 18).trans e18) (b6.out.below (newT_nm hT)) Tryd.underlying31 rfl (by rw [ZS ()]; kernel_rfl) ⟨γ, newT_refl _ _, trivial, rfl⟩
      · refine owes_ifG rfl rfl (fun v w γ h => h) fun dn a W γ hT hdn hdp hJ hf hd => ?_
        have e19 := hf 19 rfl
        exact step_load_row 31 _ rfl ((eval_slot _ 19).trans e19) (b7.out.below (newT_nm hT)) Tryd.underlying31 rfl (by rw [ZS ()]; kernel_rfl) ⟨γ, newT_refl _ _, trivial, rfl⟩
      · refine owes_ifG rfl rfl (fun v w γ h => h) fun dn a W γ hT hdn hdp hJ hf hd => ?_
        obtain ⟨v9, d9, rfl⟩ := hd 9 rfl
        obtain ⟨v10, d10, rfl⟩ := hd 10 rfl
        have hq := HES.out W
        exact step_val (w' := W) (by simp only [execOp]; go_simp) ⟨γ, newT_refl _ _, trivial, rfl⟩
      · refine owes_plainG rfl fun dn a W γ hT hdn hdp hJ hf hd => ?_
        obtain ⟨v8, d8, rfl⟩ := hd 8 rfl
        obtain ⟨v11, d11, rfl⟩ := hd 11 rfl
        exact step_val (w' := W) (by simp only [execOp]; go_simp) ⟨γ, newT_refl _ _, trivial, rfl⟩
      · refine owes_plainG rfl fun dn a W γ hT hdn hdp hJ hf hd => ?_
        obtain ⟨v12, d12, rfl⟩ := hd 12 rfl
        exact step_val (w' := W) (by simp only [execOp]; go_simp) ⟨γ, newT_refl _ _, trivial, rfl⟩
      · refine owes_ifG rfl rfl (fun v w γ h => h) fun dn a W γ hT hdn hdp hJ hf hd => ?_
        have e18 := hf 18 rfl
        exact step_load_row 31 _ rfl ((eval_slot _ 18).trans e18) (b6.out.below (newT_nm hT)) Tryd.underlying31 rfl (by rw [ZS ()]; kernel_rfl) ⟨γ, newT_refl _ _, trivial, rfl⟩
      · refine owes_ifG rfl rfl (fun v w γ h => h) fun dn a W γ hT hdn hdp hJ hf hd => ?_
        have e7 := hf 7 rfl
        exact step_load_row 31 _ rfl ((eval_slot _ 7).trans e7) (b0.out.below (newT_nm hT)) Tryd.underlying31 rfl (by rw [ZK ()]; kernel_rfl) ⟨γ, newT_refl _ _, trivial, rfl⟩
      · refine owes_ifG rfl rfl (fun v w γ h => h) fun dn a W γ hT hdn hdp hJ hf hd => ?_
        have e15 := hf 15 rfl
        exact step_load_row 27 _ rfl ((eval_slot _ 15).trans e15) (b4.out.below (newT_nm hT)) Tryd.underlying27 rfl (by rw [ZX ()]; kernel_rfl) ⟨γ, newT_refl _ _, trivial, rfl⟩
      · refine owes_ifG rfl rfl (fun v w γ h => h) fun dn a W γ hT hdn hdp hJ hf hd => ?_
        have e17 := hf 17 rfl
        exact step_load_row 27 _ rfl ((eval_slot _ 17).trans e17) (b5.out.below (newT_nm hT)) Tryd.underlying27 rfl (by rw [ZY ()]; kernel_rfl) ⟨γ, newT_refl _ _, trivial, rfl⟩
      · refine owes_ifG rfl rfl (fun v w γ h => h) fun dn a W γ hT hdn hdp hJ hf hd => ?_
        obtain ⟨v15, d15, rfl⟩ := hd 15 rfl
        obtain ⟨v16, d16, rfl⟩ := hd 16 rfl
        obtain ⟨v17, d17, rfl⟩ := hd 17 rfl
        refine step_call (w' := W) (f := 19) (args := #[.agg KC, .agg X, .agg Y]) (by simp only [execOp]; go_simp) ?_
        rw [HKC (), HXB (), HYB ()]
        refine (secret_calls key (HK ()) (boH key ra n) (boA key ra rb n ses ep) (KH ()) (KA ()) W ((HG.out.below n8).below (newT_nm hT))).mono ?_
        rintro e w' ⟨rfl, hb⟩
        exact ⟨_, rfl, γ, hb, trivial, by rw [bo_sec, ← HSB ()]; rfl⟩
      · refine owes_ifG rfl rfl (fun v w γ h => h) fun dn a W γ hT hdn hdp hJ hf hd => ?_
        obtain ⟨v14, d14, rfl⟩ := hd 14 rfl
        obtain ⟨v18, d18, rfl⟩ := hd 18 rfl
        have hq := HES.out W
        exact step_val (w' := W) (by simp only [execOp]; go_simp) ⟨γ, newT_refl _ _, trivial, rfl⟩
      · refine owes_plainG rfl fun dn a W γ hT hdn hdp hJ hf hd => ?_
        obtain ⟨v13, d13, rfl⟩ := hd 13 rfl
        obtain ⟨v19, d19, rfl⟩ := hd 19 rfl
        exact step_val (w' := W) (by simp only [execOp]; go_simp) ⟨γ, newT_refl _ _, trivial, rfl⟩
      · refine owes_plainG rfl fun dn a W γ hT hdn hdp hJ hf hd => ?_
        obtain ⟨v20, d20, rfl⟩ := hd 20 rfl
        exact step_val (w' := W) (by simp only [execOp]; go_simp) ⟨γ, newT_refl _ _, trivial, rfl⟩
      · refine owes_ifG rfl rfl (fun v w γ h => h) fun dn a W γ hT hdn hdp hJ hf hd => ?_
        have e17 := hf 17 rfl
        exact step_val (w' := W) (by simp only [execOp]; go_simp) ⟨γ, newT_refl _ _, trivial, rfl⟩
      · refine owes_ifG rfl rfl (fun v w γ h => h) fun dn a W γ hT hdn hdp hJ hf hd => ?_
        obtain ⟨v22, d22, rfl⟩ := hd 22 rfl
        have c2 := ((b5.out.below (newT_nm hT)).cell 2).trans (YX2 ())
        exact step_val (w' := W) (by simp only [execOp]; go_simp) ⟨γ, newT_refl _ _, trivial, rfl⟩
      · refine owes_ifG rfl rfl (fun v w γ h => h) fun dn a W γ hT hdn hdp hJ hf hd => ?_
        have e4 := hf 4 rfl
        exact step_val (w' := W) (by simp only [execOp]; go_simp) ⟨γ, newT_refl _ _, trivial, rfl⟩
      · refine owes_ifG rfl rfl (fun v w γ h => h) fun dn a W γ hT hdn hdp hJ hf hd => ?_
        obtain ⟨v23, d23, rfl⟩ := hd 23 rfl
        obtain ⟨v24, d24, rfl⟩ := hd 24 rfl
        exact step_val (w' := W) (by simp only [execOp]; go_simp) ⟨γ, newT_refl _ _, trivial, rfl⟩
      · refine owes_plainG rfl fun dn a W γ hT hdn hdp hJ hf hd => ?_
        obtain ⟨v21, d21, rfl⟩ := hd 21 rfl
        obtain ⟨v25, d25, rfl⟩ := hd 25 rfl
        exact step_val (w' := W) (by simp only [execOp]; go_simp) ⟨γ, newT_refl _ _, trivial, rfl⟩
      · refine owes_plainG rfl fun dn a W γ hT hdn hdp hJ hf hd => ?_
        obtain ⟨v26, d26, rfl⟩ := hd 26 rfl
        exact step_val (w' := W) (by simp only [execOp]; go_simp) ⟨γ, newT_refl _ _, trivial, rfl⟩
      · refine owes_ifG rfl rfl (fun v w γ h => h) fun dn a W γ hT hdn hdp hJ hf hd => ?_
        have e17 := hf 17 rfl
        exact step_val (w' := W) (by simp only [execOp]; go_simp) ⟨γ, newT_refl _ _, trivial, rfl⟩
      · refine owes_ifG rfl rfl (fun v w γ h => h) fun dn a W γ hT hdn hdp hJ hf hd => ?_
        obtain ⟨v28, d28, rfl⟩ := hd 28 rfl
        have c3 := ((b5.out.below (newT_nm hT)).cell 3).trans (YX3 ())
        exact step_val (w' := W) (by simp only [execOp]; go_simp) ⟨γ, newT_refl _ _, trivial, rfl⟩
      · refine owes_ifG rfl rfl (fun v w γ h => h) fun dn a W γ hT hdn hdp hJ hf hd => ?_
        have e5 := hf 5 rfl
        exact step_val (w' := W) (by simp only [execOp]; go_simp) ⟨γ, newT_refl _ _, trivial, rfl⟩
      · refine owes_ifG rfl rfl (fun v w γ h => h) fun dn a W γ hT hdn hdp hJ hf hd => ?_
        obtain ⟨v29, d29, rfl⟩ := hd 29 rfl
        obtain ⟨v30, d30, rfl⟩ := hd 30 rfl
        exact step_val (w' := W) (by simp only [execOp]; go_simp) ⟨γ, newT_refl _ _, trivial, rfl⟩
      · refine owes_plainG rfl fun dn a W γ hT hdn hdp hJ hf hd => ?_
        obtain ⟨v27, d27, rfl⟩ := hd 27 rfl
        obtain ⟨v31, d31, rfl⟩ := hd 31 rfl
        exact step_val (w' := W) (by simp only [execOp]; go_simp) ⟨γ, newT_refl _ _, trivial, rfl⟩
      · refine owes_plainG rfl fun dn a W γ hT hdn hdp hJ hf hd => ?_
        obtain ⟨v32, d32, rfl⟩ := hd 32 rfl
        exact step_val (w' := W) (by simp only [execOp]; go_simp) ⟨γ, newT_refl _ _, trivial, rfl⟩
      · refine owes_ifG rfl rfl (fun v w γ h => h) fun dn a W γ hT hdn hdp hJ hf hd => ?_
        have e15 := hf 15 rfl
        exact step_val (w' := W) (by simp only [execOp]; go_simp) ⟨γ, newT_refl _ _, trivial, rfl⟩
      · refine owes_ifG rfl rfl (fun v w γ h => h) fun dn a W γ hT hdn hdp hJ hf hd => ?_
        obtain ⟨v34, d34, rfl⟩ := hd 34 rfl
        have c1 := ((b4.out.below (newT_nm hT)).cell 1).trans (XX1 ())
        exact step_val (w' := W) (by simp only [execOp]; go_simp) ⟨γ, newT_refl _ _, trivial, rfl⟩
      · refine owes_ifG rfl rfl (fun v w γ h => h) fun dn a W γ hT hdn hdp hJ hf hd => ?_
        have e1 := hf 1 rfl
        exact step_val (w' := W) (by simp only [execOp]; go_simp) ⟨γ, newT_refl _ _, trivial, rfl⟩
      · refine owes_ifG rfl rfl (fun v w γ h => h) fun dn a W γ hT hdn hdp hJ hf hd => ?_
        obtain ⟨v35, d35, rfl⟩ := hd 35 rfl
        obtain ⟨v36, d36, rfl⟩ := hd 36 rfl
        exact step_val (w' := W) (by simp only [execOp]; go_simp) ⟨γ, newT_refl _ _, trivial, rfl⟩
      · refine owes_plainG rfl fun dn a W γ hT hdn hdp hJ hf hd => ?_
        obtain ⟨v33, d33, rfl⟩ := hd 33 rfl
        obtain ⟨v37, d37, rfl⟩ := hd 37 rfl
        exact step_val (w' := W) (by simp only [execOp]; go_simp) ⟨γ, newT_refl _ _, trivial, rfl⟩
      · exact hp 38 rfl
      · intro vs w9 γ hT hvs
        have b0 := Lib.hid (b0.out.below (newT_nm hT))
        have b2 := Lib.hid (b2.out.below (newT_nm hT))
        have b3 := Lib.hid (b3.out.below (newT_nm hT))
        have b4 := Lib.hid (b4.out.below (newT_nm hT))
        have b5 := Lib.hid (b5.out.below (newT_nm hT))
        have n9 : NewMem w w9 := NewMem.trans _ _ _ n8 (newT_nm hT)
        simp only [laid, Nat.reduceAdd, hvs]
        clear hT hvs n8 b6 b7
        go_wp2_with fail
        refine region_toG (T := cpT w9.heap.size) (J := cpJ w9.heap.size 27 zPK.X X Y) (cpT_trans _) (cpT_refl _) (0, 0) (fun vs W γ => ∃ ga gb, vs 2 = .pointer (some ⟨ga, 0, none⟩) ∧ vs 3 = .pointer (some ⟨gb, 0, none⟩) ∧ w9.heap.size ≤ ga ∧ w9.heap.size ≤ gb ∧ ga ≠ gb ∧ Blk W ga 27 X ∧ Blk W gb 27 Y) (by kernel_rfl) (by kernel_rfl) (by kernel_rfl) (cpJ_start _ _ _ _ _ _) ⟨prOfG ([.is (.agg X), .is (.agg Y), .cp1 _, .cp2 _, .any, .any] : List (PrG (cpT w9.heap.size))), prOfG_st _, none_two 4 5 (by kernel_rfl) (fun _ _ _ h => trivial) (fun _ _ _ h => trivial), ⟨?_, ?_, ?_, ?_, ?_, ?_, trivial⟩, fun vs W γ hT hJ hp => ?_⟩ ?_
        · refine owes_plainG rfl fun dn a W γ hT hdn hdp hJ hf hd => ?_
          have e15 := hf 15 rfl
          exact step_load_row 27 _ rfl ((eval_slot _ 15).trans e15) (blk_below (w := w9.drew) b4.out hT.1 b4.out.lt) Tryd.underlying27 rfl (by rw [ZX ()]; kernel_rfl) ⟨γ, cpT_refl _ _ _, cpJ_ne (by decide) (by decide) (by decide) (by decide) hJ, rfl⟩
        · refine owes_plainG rfl fun dn a W γ hT hdn hdp hJ hf hd => ?_
          have e17 := hf 17 rfl
          exact step_load_row 27 _ rfl ((eval_slot _ 17).trans e17) (blk_below (w := w9.drew) b5.out hT.1 b5.out.lt) Tryd.underlying27 rfl (by rw [ZY ()]; kernel_rfl) ⟨γ, cpT_refl _ _ _, cpJ_ne (by decide) (by decide) (by decide) (by decide) hJ, rfl⟩
        · refine owes_plainG rfl fun dn a W γ hT hdn hdp hJ hf hd => ?_
          have hle : w9.heap.size ≤ W.heap.size := hT.1.size
          have hlt := b0.out.lt
          exact step_val (w' := W.alloc (.cells zPK.X 27)) (v := .pointer (some ⟨W.heap.size, 0, none⟩)) (by simp only [execOp]; go_simp; try rfl) ⟨(W.heap.size, γ.2), ⟨(Below.refl _ _).alloc hle _, fun h => absurd (hJ.n1 hdn) h, fun _ => rfl⟩, cpJ_2 hdn hle hJ, by show W.heap.size ≠ 0; omega, rfl⟩
        · refine owes_plainG rfl fun dn a W γ hT hdn hdp hJ hf hd => ?_
          have hle : w9.heap.size ≤ W.heap.size := hT.1.size
          have hlt := b0.out.lt
          exact step_val (w' := W.alloc (.cells zPK.X 27)) (v := .pointer (some ⟨W.heap.size, 0, none⟩)) (by simp only [execOp]; go_simp; try rfl) ⟨(γ.1, W.heap.size), ⟨(Below.refl _ _).alloc hle _, fun _ => rfl, fun h => absurd (hJ.n2 hdn) h⟩, cpJ_3 hdn hle hJ, by show W.heap.size ≠ 0; omega, rfl⟩
        · refine owes_plainG rfl fun dn a W γ hT hdn hdp hJ hf hd => ?_
          obtain ⟨v0, d0, rfl⟩ := hd 0 rfl
          obtain ⟨v2, d2, hv2, rfl⟩ := hd 2 rfl
          have h2 := hdp 2 (by kernel_rfl)
          obtain ⟨hq, hj⟩ := cpJ_4 hdn h2 hJ
          exact fun K hK => wp_store_row 27 _ _ rfl γ.1 _ ((eval_slot _ 21).trans d2) ((eval_slot _ 120).trans d0) _ _ hq (by rw [ZX ()]; kernel_rfl) (by rw [ZX ()]; rfl) (OX ()) (hK undef _ ⟨γ, ⟨below_setRow_own (Below.refl _ _) (hJ.b1 h2).1 _, fun _ => rfl, fun _ => rfl⟩, hj, trivial⟩)
        · refine owes_plainG rfl fun dn a W γ hT hdn hdp hJ hf hd => ?_
          obtain ⟨v1, d1, rfl⟩ := hd 1 rfl
          obtain ⟨v3, d3, hv3, rfl⟩ := hd 3 rfl
          have h3 := hdp 3 (by kernel_rfl)
          obtain ⟨hq, hj⟩ := cpJ_5 hdn h3 hJ
          exact fun K hK => wp_store_row 27 _ _ rfl γ.2 _ ((eval_slot _ 22).trans d3) ((eval_slot _ 121).trans d1) _ _ hq (by rw [ZY ()]; kernel_rfl) (by rw [ZY ()]; rfl) (OY ()) (hK undef _ ⟨γ, ⟨below_setRow_own (Below.refl _ _) (hJ.b2 h3).1 _, fun _ => rfl, fun _ => rfl⟩, hj, trivial⟩)
        · have hb1 := hJ.b1 (by kernel_rfl)
          have hb2 := hJ.b2 (by kernel_rfl)
          rw [if_pos (by kernel_rfl)] at hb1 hb2
          exact ⟨γ.1, γ.2, (hp 2 rfl).2, (hp 3 rfl).2, hb1.1, hb2.1, hJ.ne (by kernel_rfl) (by kernel_rfl), hb1.2, hb2.2⟩
        · rintro vs w10 γ hT ⟨ga, gb, hv2, hv3, hga, hgb, hab, hbX, hbY⟩
          have n910 : NewMem w9 w10 := NewMem.undrew hT.1
          have B0 := b0
          have B2 := b2
          have B3 := b3
          have B4 := b4
          have b0 := Lib.hid (b0.out.below n910)
          have b2 := Lib.hid (b2.out.below n910)
          have b3 := Lib.hid (b3.out.below n910)
          have b4 := Lib.hid (b4.out.below n910)
          have n10 : NewMem w w10 := NewMem.trans _ _ _ n9 n910
          have l10 : w.heap.size ≤ w9.heap.size := n9.size
          simp only [laid, Nat.reduceAdd, hv2, hv3]
          have hB9 : Hid (Below w9.heap.size w9 w10) := Lib.hid n910
          clear hT hv2 hv3 n910 n10
          generalize vs 0 = v120
          generalize vs 1 = v121
          have bX : Hid (Blk w10 ga 27 (xK (boH key ra n) mk 0)) := by show Blk _ _ _ _; rw [xK_zero, ← HXB ()]; exact hbX
          have bY : Hid (Blk w10 gb 27 (xK (boA key ra rb n ses ep) mk 0)) := by show Blk _ _ _ _; rw [xK_zero, ← HYB ()]; exact hbY
          clear hbX hbY
          go_wp2_with fail
          have MCX : Unit → ∀ k, k < 16 → MC[k]? = some (.int .u8 ((mk.getD k 0).toNat : Int)) := fun _ k hk => by
            have hl := HMKL ()
            rw [HMC (), List.getElem?_toArray, bc_get _ _ (by omega)]
            simp [List.getD, List.getElem?_eq_getElem (show k < mk.length by omega)]
          go_loopw [23] (fun i wr => ∃ k : Nat, k ≤ 16 ∧ i = .int .i64 k ∧ Hid (Blk wr ga 27 (xK (boH key ra n) mk k)) ∧ Hid (Blk wr gb 27 (xK (boA key ra rb n ses ep) mk k)) ∧ Hid (Below w9.heap.size w9 wr)) (fun i _ => 16 - (intOf i).toNat)
          case atStart => exact ⟨0, by omega, rfl, bX, bY, hB9⟩
          case round =>
            clear bX bY hB9
            obtain ⟨k, hk, rfl, hX, hY, hN⟩ := hrel
            by_cases hlt : k < 16
            · obtain ⟨m1, hm1⟩ : ∃ m1, m1 = (boH key ra n).mrk.getD k 0 := ⟨_, rfl⟩
              obtain ⟨m2, hm2⟩ : ∃ m2, m2 = (boA key ra rb n ses ep).mrk.getD k 0 := ⟨_, rfl⟩
              obtain ⟨m0, hm0⟩ : ∃ m0, m0 = mk.getD k 0 := ⟨_, rfl⟩
              have c1 := (hX.out.cell (21 + k)).trans (xK_get (KH ()) mk k hlt)
              have s1 := hX.out.set_ (21 + k) (.int .u8 ((m1 ^^^ m0).toNat : Int))
              rw [hm1, hm0, xK_set (KH ()) mk k hlt, ← hm1, ← hm0] at s1
              have y1 := (hY.out.far (p := ⟨ga, 21 + k, none⟩) (fun e => hab e.symm) (.int .u8 ((m1 ^^^ m0).toNat : Int)))
              have f1 := hX.out.frozen (21 + k)
              have c2 := ((blk_below B3.out hN.out B3.out.lt).cell k).trans (MCX () k hlt)
              rw [← hm1] at c1
              rw [← hm0] at c2
              have x1 := xor_u8 m1 m0
              have S1 := Lib.hid s1
              have Y1 := Lib.hid y1
              have N1 := Lib.hid (hN.out.setCell (p := ⟨ga, 21 + k, none⟩) hga (.int .u8 ((m1 ^^^ m0).toNat : Int)))
              have HM2 := fun _ : Unit => hm2
              have HM0 := fun _ : Unit => hm0
              clear hm1 hm2 hm0 s1 y1 hX hY hN
              go_wp2_with fail
              go_region
              generalize hwq : World.drew _ = wq
              have S2 : Hid (Blk wq ga 27 (xK (boH key ra n) mk (k + 1))) := by show Blk _ _ _ _; rw [← hwq]; exact S1.out.drew
              have Y2 : Hid (Blk wq gb 27 (xK (boA key ra rb n ses ep) mk k)) := by show Blk _ _ _ _; rw [← hwq]; exact Y1.out.drew
              have N2 : Hid (Below w9.heap.size w9 wq) := by show Below _ _ _; rw [← hwq]; exact N1.out.drew
              clear hwq S1 Y1 N1 c1 c2 f1 x1
              have c1 := (Y2.out.cell (21 + k)).trans (xK_get (KA ()) mk k hlt)
              rw [← HM2 ()] at c1
              have s1 := Y2.out.set_ (21 + k) (.int .u8 ((m2 ^^^ m0).toNat : Int))
              rw [HM2 (), HM0 (), xK_set (KA ()) mk k hlt, ← HM2 (), ← HM0 ()] at s1
              have y1 := (S2.out.far (p := ⟨gb, 21 + k, none⟩) hab (.int .u8 ((m2 ^^^ m0).toNat : Int)))
              have f1 := Y2.out.frozen (21 + k)
              have c2 := ((blk_below B3.out N2.out B3.out.lt).cell k).trans (MCX () k hlt)
              rw [← HM0 ()] at c2
              have x1 := xor_u8 m2 m0
              have S1 := Lib.hid s1
              have Y1 := Lib.hid y1
              have N1 := Lib.hid (N2.out.setCell (p := ⟨gb, 21 + k, none⟩) hgb (.int .u8 ((m2 ^^^ m0).toNat : Int)))
              clear s1 y1 S2 Y2 N2
              go_wp2_with fail
              go_region
              generalize hwq : World.drew _ = wq2
              have S2 : Hid (Blk wq2 gb 27 (xK (boA key ra rb n ses ep) mk (k + 1))) := by show Blk _ _ _ _; rw [← hwq]; exact S1.out.drew
              have Y2 : Hid (Blk wq2 ga 27 (xK (boH key ra n) mk (k + 1))) := by show Blk _ _ _ _; rw [← hwq]; exact Y1.out.drew
              have N2 : Hid (Below w9.heap.size w9 wq2) := by show Below _ _ _; rw [← hwq]; exact N1.out.drew
              clear hwq S1 Y1 N1 c1 c2 f1 x1
              go_wp2_with fail
              go_roundw
              case rel => exact ⟨k + 1, by omega, by go_num, Y2, S2, N2⟩
              case measure => simp [intOf]; omega
            · have hke : k = 16 := by omega
              subst hke
              obtain ⟨XF, hXF⟩ : ∃ x, x = (hPK n ra (flipB (helF key n ra) mk)).X := ⟨_, rfl⟩
              obtain ⟨YF, hYF⟩ : ∃ x, x = (aPK ses ep rb (flipB (ansF key (boH key ra n) (aPK ses ep rb Z16)) mk)).X := ⟨_, rfl⟩
              have hX' := hX.out
              have hY' := hY.out
              rw [xK_all (KH ()) mk (HMKL ()), show ({ boH key ra n with mrk := flipB (boH key ra n).mrk mk } : PK).X = XF from hXF.symm] at hX'
              rw [xK_all (KA ()) mk (HMKL ()), show ({ boA key ra rb n ses ep with mrk := flipB (boA key ra rb n ses ep).mrk mk } : PK).X = YF from hYF.symm] at hY'
              have bX := Lib.hid hX'
              have bY := Lib.hid hY'
              have KXF : Unit → (hPK n ra (flipB (helF key n ra) mk)).ok := fun _ => hPK_ok (B3i ()) (HRAL ()) (by rw [flipB_length _ _ (by rw [helF_length, HMKL ()]), helF_length])
              have KYF : Unit → (aPK ses ep rb (flipB (ansF key (boH key ra n) (aPK ses ep rb Z16)) mk)).ok := fun _ => aPK_ok (B1 ()) (B2i ()) (HRBL ()) (by rw [flipB_length _ _ (by rw [ansF_length, HMKL ()]), ansF_length])
              have HXF := fun _ : Unit => hXF
              have HYF := fun _ : Unit => hYF
              have ZXF : Unit → XF.size = 38 := fun _ => by rw [hXF]; exact PK.size (KXF ())
              have ZYF : Unit → YF.size = 38 := fun _ => by rw [hYF]; exact PK.size (KYF ())
              have b0 := Lib.hid (blk_below B0.out hN.out B0.out.lt)
              have b2 := Lib.hid (blk_below B2.out hN.out B2.out.lt)
              have b3 := Lib.hid (blk_below B3.out hN.out B3.out.lt)
              have b4 := Lib.hid (blk_below B4.out hN.out B4.out.lt)
              have n11 : NewMem w wr := NewMem.trans _ _ _ n9 hN.out
              clear hX hY hX' hY' hN hXF hYF B0 B2 B3 B4 n9 MCX
              have heqm := fun w : World => eq16z w mk (HMKL ())
              by_cases hz : mk = Z16
              · rw [show decide (mk = List.replicate 16 0) = true from decide_eq_true hz] at heqm
                rw [← HMC ()] at heqm
                go_wp2_with (first | (refine at_slot 148 ?_; refine wpList_load_row rfl 24 _ rfl (w.heap.size + 3) rfl _ MC (0, 0) _ (b3.out) Tryd.underlying24 rfl (by rw [ZM ()]; kernel_rfl) ?_) | (refine at_slot 149 ?_; refine wpList_build_to rfl 24 _ rfl (bc Z16).toArray built_z16 ?_))
                go_ret
                exact ⟨rfl, n11⟩
              · rw [show decide (mk = List.replicate 16 0) = false from decide_eq_false hz] at heqm
                rw [← HMC ()] at heqm
                have HZ := fun _ : Unit => hz
                clear hz
                go_wp2_with (first | (refine at_slot 148 ?_; refine wpList_load_row rfl 24 _ rfl (w.heap.size + 3) rfl _ MC (0, 0) _ (b3.out) Tryd.underlying24 rfl (by rw [ZM ()]; kernel_rfl) ?_) | (refine at_slot 149 ?_; refine wpList_build_to rfl 24 _ rfl (bc Z16).toArray built_z16 ?_) | (refine at_slot 152 ?_; refine wpList_load_row rfl 31 _ rfl (w.heap.size) rfl _ KC (0, 0) _ (b0.out) Tryd.underlying31 rfl (by rw [ZK ()]; kernel_rfl) ?_) | (refine at_slot 153 ?_; refine wpList_load_row rfl 27 _ rfl (g1) rfl _ X (0, 0) _ (b4.out) Tryd.underlying27 rfl (by rw [ZX ()]; kernel_rfl) ?_) | (refine at_slot 154 ?_; refine wpList_load_row rfl 27 _ rfl (gb) rfl _ YF (0, 0) _ (bY.out) Tryd.underlying27 rfl (by rw [ZYF ()]; kernel_rfl) ?_))
                rw [HKC (), HXB (), HYF ()]
                refine (canswer_calls key (HK ()) (boH key ra n) _ (KH ()) (KYF ()) _ (HG.out.below n11)).mono ?_
                obtain ⟨ZC, hZC⟩ : ∃ x, x = (bc Z32).toArray := ⟨_, rfl⟩
                rw [bo_caF _ _ _ _ _ _ (HN ()) P1 P2 mk (HMKL ()) (HZ ()), bo_caSF _ _ _ _ _ _ (HN ()) P1 P2 mk (HMKL ()) (HZ ()), ← HKC (), ← HXB (), ← HYF (), ← hZC]
                rintro e w12 ⟨rfl, hb12⟩
                have HZC := fun _ : Unit => hZC
                have ZZC : Unit → ZC.size = 32 := fun _ => by rw [hZC]; rfl
                have OZC : Unit → ZC.all (·.oneCell') = true := fun _ => by rw [hZC]; exact bc_all _
                have HBZ : Unit → Program.built Tryd.prog 31 [] = some ZC := fun _ => by rw [hZC]; exact built_z32
                clear hZC heqm b3
                have b0 := Lib.hid (b0.out.below hb12)
                have b2 := Lib.hid (b2.out.below hb12)
                have bX := Lib.hid (bX.out.below hb12)
                have n12 : NewMem w w12 := NewMem.trans _ _ _ n11 hb12
                have l0 : w.heap.size < w12.heap.size := b0.out.lt
                have l2 : w.heap.size + 2 < w12.heap.size := b2.out.lt
                have lX : ga < w12.heap.size := bX.out.lt
                clear n11 hb12 b4 bY
                obtain ⟨g4, hg4⟩ : ∃ g, g = w12.heap.size := ⟨_, rfl⟩
                go_wp2_with (first | (refine at_store 31 ?_; refine wpList_store_row rfl 31 _ _ rfl (w12.heap.size) ZC rfl rfl _ _ (Blk.new _ _ _) (by rw [ZZC ()]; kernel_rfl) (by rw [ZZC ()]; rfl) (OZC ()) ?_) | (refine at_slot 159 ?_; refine wpList_load_row rfl 31 _ rfl (w.heap.size) rfl _ KC (0, 0) _ ((b0.out.alloc _).setRow_far (by omega) _) Tryd.underlying31 rfl (by rw [ZK ()]; kernel_rfl) ?_) | (refine at_slot 160 ?_; refine wpList_load_row rfl 27 _ rfl (ga) rfl _ XF (0, 0) _ ((bX.out.alloc _).setRow_far (by omega) _) Tryd.underlying27 rfl (by rw [ZXF ()]; kernel_rfl) ?_) | (refine at_slot 163 ?_; refine wpList_load_row rfl 24 _ rfl (w.heap.size + 2) rfl _ RB (0, 0) _ ((b2.out.alloc _).setRow_far (by omega) _) Tryd.underlying24 rfl (by rw [ZB ()]; kernel_rfl) ?_))
                generalize hw13 : World.setRow _ _ _ = w13
                have n1213 : NewMem w12 w13 := by rw [← hw13]; exact below_setRow_own (NewMem.alloc _ _) (Nat.le_refl _) _
                have b8 : Hid (Blk w13 g4 31 ZC) := by show Blk _ _ _ _; rw [← hw13, hg4]; exact (Blk.new _ _ (bc Z32).toArray).setRow _
                have b0 := Lib.hid (b0.out.below n1213)
                have bX := Lib.hid (bX.out.below n1213)
                have n13 : NewMem w w13 := NewMem.trans _ _ _ n12 n1213
                rw [← hg4]
                clear hw13 n1213 n12 hg4 l0 l2 lX b2
                rw [HKC (), HXF (), HRB ()]
                refine (answer_calls key (HK ()) (hPK n ra (flipB (helF key n ra) mk)) (KXF ()) ses ep (B1 ()) (B2i ()) rb (HRBL ()) _ (HG.out.below n13)).mono ?_
                rw [bo_anF _ _ _ _ _ _ (HN ()) mk (HMKL ()) (HZ ()), bo_anPF _ _ _ _ _ _ (HN ()) mk (HMKL ()) (HZ ()), bo_anSF _ _ _ _ _ _ (HN ()) mk (HMKL ()) (HZ ()), ← HKC (), ← HXF (), ← HRB (), ← HZC ()]
                rintro e w14 ⟨rfl, hb14⟩
                have b0 := Lib.hid (b0.out.below hb14)
                have bX := Lib.hid (bX.out.below hb14)
                have b8 := Lib.hid (b8.out.below hb14)
                have n14 : NewMem w w14 := NewMem.trans _ _ _ n13 hb14
                have l0 : w.heap.size < w14.heap.size := b0.out.lt
                have lX : ga < w14.heap.size := bX.out.lt
                have l8 : g4 < w14.heap.size := b8.out.lt
                clear n13 hb14
                obtain ⟨g5, hg5⟩ : ∃ g, g = w14.heap.size := ⟨_, rfl⟩
                go_wp2_with (first | (refine at_store 27 ?_; refine wpList_store_row rfl 27 _ _ rfl (w14.heap.size) zPK.X rfl rfl _ _ ((Blk.new _ _ _).alloc _) (by rw [ZZP ()]; kernel_rfl) (by rw [ZZP ()]; rfl) (PK.one zPK) ?_) | (refine at_store 31 ?_; refine wpList_store_row rfl 31 _ _ rfl (w14.heap.size + 1) ZC rfl rfl _ _ ((Blk.newAt _ _ (by simp)).setRow_far (by omega) _) (by rw [ZZC ()]; kernel_rfl) (by rw [ZZC ()]; rfl) (OZC ()) ?_) | (refine at_slot 168 ?_; refine wpList_load_row rfl 31 _ rfl (w.heap.size) rfl _ KC (0, 0) _ ((((b0.out.alloc _).alloc _).setRow_far (by omega) _).setRow_far (by omega) _) Tryd.underlying31 rfl (by rw [ZK ()]; kernel_rfl) ?_) | (refine at_slot 169 ?_; refine wpList_load_row rfl 27 _ rfl (ga) rfl _ XF (0, 0) _ ((((bX.out.alloc _).alloc _).setRow_far (by omega) _).setRow_far (by omega) _) Tryd.underlying27 rfl (by rw [ZXF ()]; kernel_rfl) ?_))
                generalize hw15 : World.setRow (World.setRow _ _ _) _ _ = w15
                have n1415 : NewMem w14 w15 := by rw [← hw15]; exact below_setRow_own (below_setRow_own ((NewMem.alloc _ _).more _) (Nat.le_refl _) _) (by omega) _
                have b9 : Hid (Blk w15 (g5 + 1) 31 ZC) := by show Blk _ _ _ _; rw [← hw15, hg5]; exact ((Blk.newAt (w := World.alloc w14 _) _ (bc Z32).toArray (by simp)).setRow_far (by omega) _).setRow _
                have b8 := Lib.hid (b8.out.below n1415)
                have n15 : NewMem w w15 := NewMem.trans _ _ _ n14 n1415
                rw [← hg5]
                clear hw15 n1415 n14 hg5 l0 lX l8
                rw [HKC (), HXF ()]
                refine (chello_calls key (HK ()) (hPK n ra (flipB (helF key n ra) mk)) (KXF ()) _ (HG.out.below n15)).mono ?_
                rw [bo_chF _ _ _ (HN ()) mk (HMKL ()) (HZ ()), ← HKC (), ← HXF ()]
                rintro e w16 ⟨rfl, hb16⟩
                have b8 := Lib.hid (b8.out.below hb16)
                have b9 := Lib.hid (b9.out.below hb16)
                have n16 : NewMem w w16 := NewMem.trans _ _ _ n15 hb16
                clear n15 hb16
                have heqz0 := fun (w : World) => eq32 w Z32 Z32 rfl rfl
                rw [show decide (Z32 = Z32) = true from decide_eq_true rfl] at heqz0
                have heqz : ∀ w : World, (Op.equalIn 10000 31 (.agg ZC) (.agg #[.int .u8 0, .int .u8 0, .int .u8 0, .int .u8 0, .int .u8 0, .int .u8 0, .int .u8 0, .int .u8 0, .int .u8 0, .int .u8 0, .int .u8 0, .int .u8 0, .int .u8 0, .int .u8 0, .int .u8 0, .int .u8 0, .int .u8 0, .int .u8 0, .int .u8 0, .int .u8 0, .int .u8 0, .int .u8 0, .int .u8 0, .int .u8 0, .int .u8 0, .int .u8 0, .int .u8 0, .int .u8 0, .int .u8 0, .int .u8 0, .int .u8 0, .int .u8 0])).run Tryd.prog w = .ok true w := fun w => by
                  have h := heqz0 w
                  rw [HZC ()]
                  exact h
                clear heqz0
                go_wp2_with (first | (refine at_slot 177 ?_; refine wpList_load_rd_if rfl 31 _ rfl ⟨g4, 0, none⟩ rfl ZC.toList _ (blk_cells' (b8.out)) Tryd.underlying31 rfl (by rw [Array.length_toList, ZZC ()]; kernel_rfl) ?_; rw [Array.toArray_toList]) | (refine at_slot 186 ?_; refine wpList_load_rd_if rfl 31 _ rfl ⟨g5 + 1, 0, none⟩ rfl ZC.toList _ (blk_cells' (b9.out)) Tryd.underlying31 rfl (by rw [Array.length_toList, ZZC ()]; kernel_rfl) ?_; rw [Array.toArray_toList]))
                go_ret
                exact ⟨rfl, n16⟩
end Go.Proofs.YtbhaekdfpfncnaaDoor
