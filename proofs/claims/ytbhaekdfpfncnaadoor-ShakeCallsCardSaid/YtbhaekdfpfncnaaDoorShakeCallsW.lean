/- The law ShakeCalls, walked. -/
import Derived.Test.YtbhaekdfpfncnaaDoorRfz
import Derived.Test.YtbhaekdfpfncnaaDoorLight
namespace Go.Proofs.YtbhaekdfpfncnaaDoor
set_option linter.unusedVariables false
set_option linter.unusedSimpArgs false
open Go.RowKit

theorem flat_bound : ∀ (ls : List (List UInt8)) (m : Nat), (∀ l ∈ ls, l.length ≤ m) → ls.flatten.length ≤ ls.length * m
  | [], m, _ => by simp
  | l :: ls, m, h => by
    have h1 := flat_bound ls m fun x hx => h x (List.mem_cons_of_mem _ hx)
    have h2 := h l List.mem_cons_self
    rw [List.flatten_cons, List.length_append, List.length_cons, Nat.add_mul, Nat.one_mul]
    omega
theorem helP_bare (key : List UInt8) (n : Int) (rnd : List UInt8) : (helP key n rnd).A = none ∧ (helP key n rnd).bl = [] ∧ (helP key n rnd).c = 0 := by
  unfold helP
  split <;> exact ⟨rfl, rfl, rfl⟩
theorem anP_bare (key : List UInt8) (h : PK) (ses ep : Nat) (rnd : List UInt8) : (anP key h ses ep rnd).A = none ∧ (anP key h ses ep rnd).bl = [] ∧ (anP key h ses ep rnd).c = 0 := by
  unfold anP
  split <;> exact ⟨rfl, rfl, rfl⟩

set_option maxRecDepth 4000 in
set_option maxHeartbeats 8000000 in
theorem shcalls_calls (key : List UInt8) (hk : key.length = 32) (n : Int) (hn64 : -9223372036854775808 ≤ n ∧ n ≤ 9223372036854775807) (rnd : List UInt8) (hrn : rnd.length = 16) (h p : PK) (hh : h.ok) (hp : p.ok) (ses ep : Nat) (hses : ses < 18446744073709551616) (hep : ep < 4294967296)
    (s : ByteArray) (hs : s.size ≤ 9223372036854775807) (A : Option Addr) (ls : List (List UInt8)) (c : Nat) (w : World) (F : Nat → Prop) (hr : RdL w F A ls) (hc : ls.length ≤ c) (hc2 : ls.length ≤ 9223372036854775807) (hm : ∀ l ∈ ls, l.length ≤ 9223372036854775807) (hG : Glb w) :
    Calls Tryd.prog 4 #[.agg (bc key).toArray, .int .i64 n, .agg (bc rnd).toArray, .agg h.X, .agg p.X, .int .u64 (ses : Int), .int .u32 (ep : Int), .string s, .slice A ls.length c] w fun e w' => e = .returned (.bool true) ∧ Below w.heap.size w w' := by
  have HR := Lib.hid hr
  have HC := fun _ : Unit => hc
  have HM := Lib.hid hm
  have HG := Lib.hid hG
  obtain ⟨KC, hKC⟩ : ∃ X, X = (bc key).toArray := ⟨_, rfl⟩
  obtain ⟨RC, hRC⟩ : ∃ X, X = (bc rnd).toArray := ⟨_, rfl⟩
  obtain ⟨XH, hXH⟩ : ∃ X, X = h.X := ⟨_, rfl⟩
  obtain ⟨XA, hXA⟩ : ∃ X, X = p.X := ⟨_, rfl⟩
  have HKC := fun _ : Unit => hKC
  have HRC := fun _ : Unit => hRC
  have HXH := fun _ : Unit => hXH
  have HXA := fun _ : Unit => hXA
  have ZK : Unit → KC.size = 32 := fun _ => by rw [hKC, List.size_toArray, bc_length, hk]
  have ZR : Unit → RC.size = 16 := fun _ => by rw [hRC, List.size_toArray, bc_length, hrn]
  have ZH : Unit → XH.size = 38 := fun _ => by rw [hXH]; exact PK.size hh
  have ZA : Unit → XA.size = 38 := fun _ => by rw [hXA]; exact PK.size hp
  have xh37 : XH[37]? = some (.slice h.A h.bl.length h.c) := by rw [hXH]; exact PK.xb hh
  have xa37 : XA[37]? = some (.slice p.A p.bl.length p.c) := by rw [hXA]; exact PK.xb hp
  have HK := fun _ : Unit => hk
  have HRN := fun _ : Unit => hrn
  have HH := fun _ : Unit => hh
  have HP := fun _ : Unit => hp
  have B1 := fun _ : Unit => hses
  have B2 := fun _ : Unit => hep
  have B3 := fun _ : Unit => hn64
  rw [← hKC, ← hRC, ← hXH, ← hXA]
  clear hr hm hG hk hrn hh hp hses hep hn64 hKC hRC hXH hXA
  go_enter Tryd.func4, Tryd.ntmps4
  go_wp2_with fail
  generalize hw1 : World.alloc (World.alloc (World.alloc (World.alloc w _) _) _) _ = w1
  have b0 : Hid (Blk w1 w.heap.size 31 KC) := by show Blk _ _ _ _; rw [← hw1]; exact (((Blk.new _ _ _).alloc _).alloc _).alloc _
  have b1 : Hid (Blk w1 (w.heap.size + 1) 24 RC) := by show Blk _ _ _ _; rw [← hw1]; exact ((Blk.newAt _ _ (by simp)).alloc _).alloc _
  have b2 : Hid (Blk w1 (w.heap.size + 2) 27 XH) := by show Blk _ _ _ _; rw [← hw1]; exact (Blk.newAt _ _ (by simp)).alloc _
  have b3 : Hid (Blk w1 (w.heap.size + 3) 27 XA) := by show Blk _ _ _ _; rw [← hw1]; exact Blk.newAt _ _ (by simp)
  have n1 : NewMem w w1 := by rw [← hw1]; exact (((NewMem.alloc _ _).more _).more _).more _
  clear hw1
  refine (lives_calls _ (HG.out.below n1)).mono ?_
  rintro e w2 ⟨rfl, hb2⟩
  have b0 := Lib.hid (b0.out.below hb2)
  have b1 := Lib.hid (b1.out.below hb2)
  have b2 := Lib.hid (b2.out.below hb2)
  have b3 := Lib.hid (b3.out.below hb2)
  have n2 : NewMem w w2 := NewMem.trans _ _ _ n1 hb2
  clear n1 hb2
  have ch := (b2.out.cell 37).trans xh37
  have ca := (b3.out.cell 37).trans xa37
  by_cases h1 : 200 < h.bl.length
  · have q1 : decide ((200 : Int) < (h.bl.length : Int)) = true := by rw [decide_eq_true_eq]; omega
    go_wp2_with fail
    go_ret
    exact ⟨rfl, n2⟩
  have q1 : decide ((200 : Int) < (h.bl.length : Int)) = false := by rw [decide_eq_false_iff_not]; omega
  by_cases h2 : 200 < p.bl.length
  · have q2 : decide ((200 : Int) < (p.bl.length : Int)) = true := by rw [decide_eq_true_eq]; omega
    go_wp2_with fail
    go_ret
    exact ⟨rfl, n2⟩
  have q2 : decide ((200 : Int) < (p.bl.length : Int)) = false := by rw [decide_eq_false_iff_not]; omega
  by_cases h3 : 200 < s.size
  · have q3 : decide ((200 : Int) < (s.size : Int)) = true := by rw [decide_eq_true_eq]; omega
    go_wp2_with fail
    go_ret
    exact ⟨rfl, n2⟩
  have q3 : decide ((200 : Int) < (s.size : Int)) = false := by rw [decide_eq_false_iff_not]; omega
  go_wp2_with fail
  refine (light_calls A ls c 10 200 _ F (HR.out.below n2) hc2 HM.out (by omega) (by omega)).mono ?_
  rintro e w' ⟨rfl, rfl⟩
  cases hli : lightB ls 10 200
  · go_wp2_with fail
    go_ret
    exact ⟨rfl, n2⟩
  have hli2 := lightB_true hli
  have HLI := fun _ : Unit => hli2
  have hs2 : s.size ≤ 200 := by omega
  have HFL : Unit → ls.flatten.length ≤ 2000 := fun _ => by
    have := flat_bound ls 200 hli2.2
    have := hli2.1
    have : ls.length * 200 ≤ 2000 := by omega
    omega
  clear hli hli2 h1 h2 h3 q1 q2 q3 ch ca
  go_wp2_with (first | (refine at_slot 52 ?_; refine wpList_load_row rfl 31 _ rfl (w.heap.size) rfl _ KC (0, 0) _ (b0.out) Tryd.underlying31 rfl (by rw [ZK ()]; kernel_rfl) ?_) | (refine at_slot 54 ?_; refine wpList_load_row rfl 24 _ rfl (w.heap.size + 1) rfl _ RC (0, 0) _ (b1.out) Tryd.underlying24 rfl (by rw [ZR ()]; kernel_rfl) ?_))
  rw [HKC (), HRC ()]
  refine (hello_calls key (HK ()) n (B3 ()) rnd (HRN ()) _ (HG.out.below n2)).mono ?_
  obtain ⟨P, hP⟩ : ∃ P, P = helP key n rnd := ⟨_, rfl⟩
  obtain ⟨XP, hXP⟩ : ∃ X, X = P.X := ⟨_, rfl⟩
  obtain ⟨EE, hEE⟩ : ∃ E, E = helE n rnd := ⟨_, rfl⟩
  have KP : Unit → P.ok := fun _ => by rw [hP]; exact helP_ok (B3 ()) (HRN ())
  have BP : Unit → P.A = none ∧ P.bl = [] ∧ P.c = 0 := fun _ => by rw [hP]; exact helP_bare _ _ _
  have ZP : Unit → XP.size = 38 := fun _ => by rw [hXP]; exact PK.size (KP ())
  have OP : Unit → XP.all (·.oneCell') = true := fun _ => by rw [hXP]; exact PK.one _
  have HPQ := fun _ : Unit => hP
  have HXP := fun _ : Unit => hXP
  have HEE := fun _ : Unit => hEE
  rw [← hP, ← hXP, ← hEE, ← HKC (), ← HRC ()]
  clear hP hXP hEE
  rintro e w3 ⟨rfl, hb3⟩
  have b0 := Lib.hid (b0.out.below hb3)
  have b1 := Lib.hid (b1.out.below hb3)
  have b2 := Lib.hid (b2.out.below hb3)
  have b3 := Lib.hid (b3.out.below hb3)
  have n3 : NewMem w w3 := NewMem.trans _ _ _ n2 hb3
  clear n2 hb3
  obtain ⟨g1, hg1⟩ : ∃ g, g = w3.heap.size := ⟨_, rfl⟩
  have l0 : w.heap.size < w3.heap.size := b0.out.lt
  have l1 : w.heap.size + 1 < w3.heap.size := b1.out.lt
  go_wp2_with (first | (refine at_store 27 ?_; refine wpList_store_row rfl 27 _ _ rfl (w3.heap.size) XP rfl rfl _ _ (Blk.new _ _ _) (by rw [ZP ()]; kernel_rfl) (by rw [ZP ()]; rfl) (OP ()) ?_) | (refine at_slot 59 ?_; refine wpList_load_row rfl 31 _ rfl (w.heap.size) rfl _ KC (0, 0) _ ((b0.out.alloc _).setRow_far (by omega) _) Tryd.underlying31 rfl (by rw [ZK ()]; kernel_rfl) ?_) | (refine at_slot 61 ?_; refine wpList_load_row rfl 24 _ rfl (w.heap.size + 1) rfl _ RC (0, 0) _ ((b1.out.alloc _).setRow_far (by omega) _) Tryd.underlying24 rfl (by rw [ZR ()]; kernel_rfl) ?_))
  have l2 : w.heap.size + 2 < w3.heap.size := b2.out.lt
  have l3 : w.heap.size + 3 < w3.heap.size := b3.out.lt
  generalize hw4 : World.setRow _ _ _ = w4
  have n34 : NewMem w3 w4 := by rw [← hw4]; exact below_setRow_own (NewMem.alloc _ _) (Nat.le_refl _) _
  have b4 : Hid (Blk w4 g1 27 XP) := by show Blk _ _ _ _; rw [← hw4, hg1]; exact (Blk.new _ _ zPK.X).setRow _
  have b0 := Lib.hid (b0.out.below n34)
  have b1 := Lib.hid (b1.out.below n34)
  have b2 := Lib.hid (b2.out.below n34)
  have b3 := Lib.hid (b3.out.below n34)
  have n4 : NewMem w w4 := NewMem.trans _ _ _ n3 n34
  have G1 : w.heap.size + 3 < g1 := by rw [hg1]; exact l3
  rw [← hg1]
  clear hw4 n34 n3 hg1 l0 l1 l2 l3
  rw [HKC (), HRC ()]
  refine (rhello_calls key (HK ()) n (B3 ()) rnd (HRN ()) _ (HG.out.below n4)).mono ?_
  rw [← HPQ (), ← HXP (), ← HEE (), ← HKC (), ← HRC ()]
  rintro e w5 ⟨rfl, hb5⟩
  have b0 := Lib.hid (b0.out.below hb5)
  have b1 := Lib.hid (b1.out.below hb5)
  have b2 := Lib.hid (b2.out.below hb5)
  have b3 := Lib.hid (b3.out.below hb5)
  have b4 := Lib.hid (b4.out.below hb5)
  have n5 : NewMem w w5 := NewMem.trans _ _ _ n4 hb5
  clear n4 hb5
  obtain ⟨g2, hg2⟩ : ∃ g, g = w5.heap.size := ⟨_, rfl⟩
  go_wp2_with (refine at_store 27 ?_; refine wpList_store_row rfl 27 _ _ rfl w5.heap.size XP rfl rfl _ _ (Blk.new _ _ _) (by rw [ZP ()]; kernel_rfl) (by rw [ZP ()]; rfl) (OP ()) ?_)
  generalize hw6 : World.setRow _ _ _ = w6
  have n56 : NewMem w5 w6 := by rw [← hw6]; exact below_setRow_own (NewMem.alloc _ _) (Nat.le_refl _) _
  have b5 : Hid (Blk w6 g2 27 XP) := by show Blk _ _ _ _; rw [← hw6, hg2]; exact (Blk.new _ _ zPK.X).setRow _
  have l14 : g1 < g2 := by rw [hg2]; exact b4.out.lt
  have b0 := Lib.hid (b0.out.below n56)
  have b1 := Lib.hid (b1.out.below n56)
  have b2 := Lib.hid (b2.out.below n56)
  have b3 := Lib.hid (b3.out.below n56)
  have b4 := Lib.hid (b4.out.below n56)
  have n6 : NewMem w w6 := NewMem.trans _ _ _ n5 n56
  rw [← hg2]
  clear hw6 n56 n5 hg2
  obtain ⟨M, hM⟩ : ∃ M, M = markF key s.data.toList ls.flatten := ⟨_, rfl⟩
  have hMl : M.length = 16 := by rw [hM]; exact markF_length _ _ _
  obtain ⟨V, hV⟩ : ∃ V, V = secF key h p := ⟨_, rfl⟩
  have hVl : V.length = 32 := by rw [hV]; exact secF_length _ _ _
  obtain ⟨CN, hCN⟩ : ∃ x, x = chN key h := ⟨_, rfl⟩
  have HM16 := fun _ : Unit => hM
  have HV32 := fun _ : Unit => hV
  have HCN := fun _ : Unit => hCN
  have hem : ∀ w : World, (Op.equalIn 10000 24 (.agg (bc M).toArray) (.agg (bc M).toArray)).run Tryd.prog w = .ok true w := fun w => by
    have := eq16 w M M hMl hMl
    rwa [decide_eq_true rfl] at this
  have hev : ∀ w : World, (Op.equalIn 10000 31 (.agg (bc V).toArray) (.agg (bc V).toArray)).run Tryd.prog w = .ok true w := fun w => by
    have := eq32 w V V hVl hVl
    rwa [decide_eq_true rfl] at this
  have HEM := Lib.hid hem
  have HEV := Lib.hid hev
  have HR6 := Lib.hid (HR.out.below n6)
  clear hM hMl hV hVl hCN hem hev
  refine region_toG (T := newT) (J := noJ) newT_trans newT_refl () (fun vs W γ => vs 39 = .bool false) (by kernel_rfl) (by kernel_rfl) (by kernel_rfl) trivial ⟨prOfG
    ([ .is (.agg XP), .is (.agg XP), .is (.bool true), .is (.bool false), .is (.bool false), .is (.int .i64 EE), .is (.int .i64 EE), .is (.bool false), .is (.bool false), .is (.bool false), .is (.agg KC), .is (.agg XH), .is (.int .i64 CN), .is (.agg KC), .is (.agg XH), .is (.int .i64 CN), .is (.bool false), .is (.bool false), .is (.bool false), .is (.agg KC)] ++ [ .is (.string s), .is (.slice A ls.length c), .is (.agg (bc M).toArray), .is (.agg KC), .is (.string s), .is (.slice A ls.length c), .is (.agg (bc M).toArray), .is (.bool false), .is (.bool false), .is (.bool false), .is (.agg KC), .is (.agg XH), .is (.agg XA), .is (.agg (bc V).toArray), .is (.agg KC), .is (.agg XH), .is (.agg XA), .is (.agg (bc V).toArray), .is (.bool false), .is (.bool false)] : List (PrG newT)), prOfG_st _, no_none (by kernel_rfl), ⟨?_, ?_, ?_, ?_, ?_, ?_, ?_, ?_, ?_, ?_, ?_, ?_, ?_, ?_, ?_, ?_, ?_, ?_, ?_, ?_, ?_, ?_, ?_, ?_, ?_, ?_, ?_, ?_, ?_, ?_, ?_, ?_, ?_, ?_, ?_, ?_, ?_, ?_, ?_, ?_, trivial⟩, fun vs W γ hT hJ hp => ?_⟩ ?_
  · refine owes_plainG rfl fun dn a W γ hT hdn hdp hJ hf hd => ?_
    have e19 := hf 19 rfl
    exact step_load_row 27 _ rfl ((eval_slot _ 19).trans e19) (b4.out.below (newT_nm hT)) Tryd.underlying27 rfl (by rw [ZP ()]; kernel_rfl) ⟨γ, newT_refl _ _, trivial, rfl⟩
  · refine owes_plainG rfl fun dn a W γ hT hdn hdp hJ hf hd => ?_
    have e21 := hf 21 rfl
    exact step_load_row 27 _ rfl ((eval_slot _ 21).trans e21) (b5.out.below (newT_nm hT)) Tryd.underlying27 rfl (by rw [ZP ()]; kernel_rfl) ⟨γ, newT_refl _ _, trivial, rfl⟩
  · refine owes_plainG rfl fun dn a W γ hT hdn hdp hJ hf hd => ?_
    obtain ⟨v0, d0, rfl⟩ := hd 0 rfl
    obtain ⟨v1, d1, rfl⟩ := hd 1 rfl
    refine step_call (w' := W) (f := 15) (args := #[.agg XP, .agg XP]) (by simp only [execOp]; go_simp) ?_
    rw [HXP ()]
    refine (packet_same P (KP ()) (BP ()).1 (BP ()).2.1 (BP ()).2.2 W).mono ?_
    rintro e w' ⟨rfl, hb⟩
    exact ⟨_, rfl, γ, hb, trivial, rfl⟩
  · refine owes_plainG rfl fun dn a W γ hT hdn hdp hJ hf hd => ?_
    obtain ⟨v2, d2, rfl⟩ := hd 2 rfl
    exact step_val (w' := W) (by simp only [execOp]; go_simp) ⟨γ, newT_refl _ _, trivial, rfl⟩
  · refine owes_plainG rfl fun dn a W γ hT hdn hdp hJ hf hd => ?_
    obtain ⟨v3, d3, rfl⟩ := hd 3 rfl
    exact step_val (w' := W) (by simp only [execOp]; go_simp) ⟨γ, newT_refl _ _, trivial, rfl⟩
  · refine owes_ifG rfl rfl (fun v w γ h => h) fun dn a W γ hT hdn hdp hJ hf hd => ?_
    have e20 := hf 20 rfl
    exact step_val (w' := W) (by simp only [execOp]; go_simp) ⟨γ, newT_refl _ _, trivial, rfl⟩
  · refine owes_ifG rfl rfl (fun v w γ h => h) fun dn a W γ hT hdn hdp hJ hf hd => ?_
    have e22 := hf 22 rfl
    exact step_val (w' := W) (by simp only [execOp]; go_simp) ⟨γ, newT_refl _ _, trivial, rfl⟩
  · refine owes_ifG rfl rfl (fun v w γ h => h) fun dn a W γ hT hdn hdp hJ hf hd => ?_
    obtain ⟨v5, d5, rfl⟩ := hd 5 rfl
    obtain ⟨v6, d6, rfl⟩ := hd 6 rfl
    exact step_val (w' := W) (by simp only [execOp]; go_simp) ⟨γ, newT_refl _ _, trivial, rfl⟩
  · refine owes_plainG rfl fun dn a W γ hT hdn hdp hJ hf hd => ?_
    obtain ⟨v4, d4, rfl⟩ := hd 4 rfl
    obtain ⟨v7, d7, rfl⟩ := hd 7 rfl
    exact step_val (w' := W) (by simp only [execOp]; go_simp) ⟨γ, newT_refl _ _, trivial, rfl⟩
  · refine owes_plainG rfl fun dn a W γ hT hdn hdp hJ hf hd => ?_
    obtain ⟨v8, d8, rfl⟩ := hd 8 rfl
    exact step_val (w' := W) (by simp only [execOp]; go_simp) ⟨γ, newT_refl _ _, trivial, rfl⟩
  · refine owes_ifG rfl rfl (fun v w γ h => h) fun dn a W γ hT hdn hdp hJ hf hd => ?_
    have e9 := hf 9 rfl
    exact step_load_row 31 _ rfl ((eval_slot _ 9).trans e9) (b0.out.below (newT_nm hT)) Tryd.underlying31 rfl (by rw [ZK ()]; kernel_rfl) ⟨γ, newT_refl _ _, trivial, rfl⟩
  · refine owes_ifG rfl rfl (fun v w γ h => h) fun dn a W γ hT hdn hdp hJ hf hd => ?_
    have e12 := hf 12 rfl
    exact step_load_row 27 _ rfl ((eval_slot _ 12).trans e12) (b2.out.below (newT_nm hT)) Tryd.underlying27 rfl (by rw [ZH ()]; kernel_rfl) ⟨γ, newT_refl _ _, trivial, rfl⟩
  · refine owes_ifG rfl rfl (fun v w γ h => h) fun dn a W γ hT hdn hdp hJ hf hd => ?_
    obtain ⟨v10, d10, rfl⟩ := hd 10 rfl
    obtain ⟨v11, d11, rfl⟩ := hd 11 rfl
    refine step_call (w' := W) (f := 12) (args := #[.agg KC, .agg XH]) (by simp only [execOp]; go_simp) ?_
    rw [HKC (), HXH ()]
    refine (chello_calls key (HK ()) h (HH ()) W ((HG.out.below n6).below (newT_nm hT))).mono ?_
    rintro e w' ⟨rfl, hb⟩
    exact ⟨_, rfl, γ, hb, trivial, by rw [HCN ()]; rfl⟩
  · refine owes_ifG rfl rfl (fun v w γ h => h) fun dn a W γ hT hdn hdp hJ hf hd => ?_
    have e9 := hf 9 rfl
    exact step_load_row 31 _ rfl ((eval_slot _ 9).trans e9) (b0.out.below (newT_nm hT)) Tryd.underlying31 rfl (by rw [ZK ()]; kernel_rfl) ⟨γ, newT_refl _ _, trivial, rfl⟩
  · refine owes_ifG rfl rfl (fun v w γ h => h) fun dn a W γ hT hdn hdp hJ hf hd => ?_
    have e12 := hf 12 rfl
    exact step_load_row 27 _ rfl ((eval_slot _ 12).trans e12) (b2.out.below (newT_nm hT)) Tryd.underlying27 rfl (by rw [ZH ()]; kernel_rfl) ⟨γ, newT_refl _ _, trivial, rfl⟩
  · refine owes_ifG rfl rfl (fun v w γ h => h) fun dn a W γ hT hdn hdp hJ hf hd => ?_
    obtain ⟨v13, d13, rfl⟩ := hd 13 rfl
    obtain ⟨v14, d14, rfl⟩ := hd 14 rfl
    refine step_call (w' := W) (f := 16) (args := #[.agg KC, .agg XH]) (by simp only [execOp]; go_simp) ?_
    rw [HKC (), HXH ()]
    refine (rchello_calls key (HK ()) h (HH ()) W ((HG.out.below n6).below (newT_nm hT))).mono ?_
    rintro e w' ⟨rfl, hb⟩
    exact ⟨_, rfl, γ, hb, trivial, by rw [HCN ()]; rfl⟩
  · refine owes_ifG rfl rfl (fun v w γ h => h) fun dn a W γ hT hdn hdp hJ hf hd => ?_
    obtain ⟨v12, d12, rfl⟩ := hd 12 rfl
    obtain ⟨v15, d15, rfl⟩ := hd 15 rfl
    exact step_val (w' := W) (by simp only [execOp]; go_simp) ⟨γ, newT_refl _ _, trivial, rfl⟩
  · refine owes_plainG rfl fun dn a W γ hT hdn hdp hJ hf hd => ?_
    obtain ⟨v9, d9, rfl⟩ := hd 9 rfl
    obtain ⟨v16, d16, rfl⟩ := hd 16 rfl
    exact step_val (w' := W) (by simp only [execOp]; go_simp) ⟨γ, newT_refl _ _, trivial, rfl⟩
  · refine owes_plainG rfl fun dn a W γ hT hdn hdp hJ hf hd => ?_
    obtain ⟨v17, d17, rfl⟩ := hd 17 rfl
    exact step_val (w' := W) (by simp only [execOp]; go_simp) ⟨γ, newT_refl _ _, trivial, rfl⟩
  · refine owes_ifG rfl rfl (fun v w γ h => h) fun dn a W γ hT hdn hdp hJ hf hd => ?_
    have e9 := hf 9 rfl
    exact step_load_row 31 _ rfl ((eval_slot _ 9).trans e9) (b0.out.below (newT_nm hT)) Tryd.underlying31 rfl (by rw [ZK ()]; kernel_rfl) ⟨γ, newT_refl _ _, trivial, rfl⟩
  · refine owes_ifG rfl rfl (fun v w γ h => h) fun dn a W γ hT hdn hdp hJ hf hd => ?_
    have e7 := hf 7 rfl
    exact step_val (w' := W) (by simp only [execOp]; go_simp) ⟨γ, newT_refl _ _, trivial, rfl⟩
  · refine owes_ifG rfl rfl (fun v w γ h => h) fun dn a W γ hT hdn hdp hJ hf hd => ?_
    have e8 := hf 8 rfl
    exact step_val (w' := W) (by simp only [execOp]; go_simp) ⟨γ, newT_refl _ _, trivial, rfl⟩
  · refine owes_ifG rfl rfl (fun v w γ h => h) fun dn a W γ hT hdn hdp hJ hf hd => ?_
    obtain ⟨v19, d19, rfl⟩ := hd 19 rfl
    obtain ⟨v20, d20, rfl⟩ := hd 20 rfl
    obtain ⟨v21, d21, rfl⟩ := hd 21 rfl
    refine step_call (w' := W) (f := 17) (args := #[.agg KC, .string s, .slice A ls.length c]) (by simp only [execOp]; go_simp) ?_
    rw [HKC ()]
    refine (smark_calls key (HK ()) s (by omega) A ls c W F (HR6.out.below (newT_nm hT)) (HC ()) ((HG.out.below n6).below (newT_nm hT)) (by have := HFL (); omega) (by have := (HLI ()).1; omega)).mono ?_
    rintro e w' ⟨rfl, hb⟩
    exact ⟨_, rfl, γ, hb, trivial, by rw [HM16 ()]; rfl⟩
  · refine owes_ifG rfl rfl (fun v w γ h => h) fun dn a W γ hT hdn hdp hJ hf hd => ?_
    have e9 := hf 9 rfl
    exact step_load_row 31 _ rfl ((eval_slot _ 9).trans e9) (b0.out.below (newT_nm hT)) Tryd.underlying31 rfl (by rw [ZK ()]; kernel_rfl) ⟨γ, newT_refl _ _, trivial, rfl⟩
  · refine owes_ifG rfl rfl (fun v w γ h => h) fun dn a W γ hT hdn hdp hJ hf hd => ?_
    have e7 := hf 7 rfl
    exact step_val (w' := W) (by simp only [execOp]; go_simp) ⟨γ, newT_refl _ _, trivial, rfl⟩
  · refine owes_ifG rfl rfl (fun v w γ h => h) fun dn a W γ hT hdn hdp hJ hf hd => ?_
    have e8 := hf 8 rfl
    exact step_val (w' := W) (by simp only [execOp]; go_simp) ⟨γ, newT_refl _ _, trivial, rfl⟩
  · refine owes_ifG rfl rfl (fun v w γ h => h) fun dn a W γ hT hdn hdp hJ hf hd => ?_
    obtain ⟨v23, d23, rfl⟩ := hd 23 rfl
    obtain ⟨v24, d24, rfl⟩ := hd 24 rfl
    obtain ⟨v25, d25, rfl⟩ := hd 25 rfl
    refine step_call (w' := W) (f := 18) (args := #[.agg KC, .string s, .slice A ls.length c]) (by simp only [execOp]; go_simp) ?_
    rw [HKC ()]
    refine (rmark_calls key (HK ()) s (by omega) A ls c W F (HR6.out.below (newT_nm hT)) (HC ()) ((HG.out.below n6).below (newT_nm hT)) (by have := HFL (); omega) (by have := (HLI ()).1; omega)).mono ?_
    rintro e w' ⟨rfl, hb⟩
    exact ⟨_, rfl, γ, hb, trivial, by rw [HM16 ()]; rfl⟩
  · refine owes_ifG rfl rfl (fun v w γ h => h) fun dn a W γ hT hdn hdp hJ hf hd => ?_
    obtain ⟨v22, d22, rfl⟩ := hd 22 rfl
    obtain ⟨v26, d26, rfl⟩ := hd 26 rfl
    have hq := HEM.out W
    exact step_val (w' := W) (by simp only [execOp]; go_simp) ⟨γ, newT_refl _ _, trivial, rfl⟩
  · refine owes_plainG rfl fun dn a W γ hT hdn hdp hJ hf hd => ?_
    obtain ⟨v18, d18, rfl⟩ := hd 18 rfl
    obtain ⟨v27, d27, rfl⟩ := hd 27 rfl
    exact step_val (w' := W) (by simp only [execOp]; go_simp) ⟨γ, newT_refl _ _, trivial, rfl⟩
  · refine owes_plainG rfl fun dn a W γ hT hdn hdp hJ hf hd => ?_
    obtain ⟨v28, d28, rfl⟩ := hd 28 rfl
    exact step_val (w' := W) (by simp only [execOp]; go_simp) ⟨γ, newT_refl _ _, trivial, rfl⟩
  · refine owes_ifG rfl rfl (fun v w γ h => h) fun dn a W γ hT hdn hdp hJ hf hd => ?_
    have e9 := hf 9 rfl
    exact step_load_row 31 _ rfl ((eval_slot _ 9).trans e9) (b0.out.below (newT_nm hT)) Tryd.underlying31 rfl (by rw [ZK ()]; kernel_rfl) ⟨γ, newT_refl _ _, trivial, rfl⟩
  · refine owes_ifG rfl rfl (fun v w γ h => h) fun dn a W γ hT hdn hdp hJ hf hd => ?_
    have e12 := hf 12 rfl
    exact step_load_row 27 _ rfl ((eval_slot _ 12).trans e12) (b2.out.below (newT_nm hT)) Tryd.underlying27 rfl (by rw [ZH ()]; kernel_rfl) ⟨γ, newT_refl _ _, trivial, rfl⟩
  · refine owes_ifG rfl rfl (fun v w γ h => h) fun dn a W γ hT hdn hdp hJ hf hd => ?_
    have e13 := hf 13 rfl
    exact step_load_row 27 _ rfl ((eval_slot _ 13).trans e13) (b3.out.below (newT_nm hT)) Tryd.underlying27 rfl (by rw [ZA ()]; kernel_rfl) ⟨γ, newT_refl _ _, trivial, rfl⟩
  · refine owes_ifG rfl rfl (fun v w γ h => h) fun dn a W γ hT hdn hdp hJ hf hd => ?_
    obtain ⟨v30, d30, rfl⟩ := hd 30 rfl
    obtain ⟨v31, d31, rfl⟩ := hd 31 rfl
    obtain ⟨v32, d32, rfl⟩ := hd 32 rfl
    refine step_call (w' := W) (f := 19) (args := #[.agg KC, .agg XH, .agg XA]) (by simp only [execOp]; go_simp) ?_
    rw [HKC (), HXH (), HXA ()]
    refine (secret_calls key (HK ()) h p (HH ()) (HP ()) W ((HG.out.below n6).below (newT_nm hT))).mono ?_
    rintro e w' ⟨rfl, hb⟩
    exact ⟨_, rfl, γ, hb, trivial, by rw [HV32 ()]; rfl⟩
  · refine owes_ifG rfl rfl (fun v w γ h => h) fun dn a W γ hT hdn hdp hJ hf hd => ?_
    have e9 := hf 9 rfl
    exact step_load_row 31 _ rfl ((eval_slot _ 9).trans e9) (b0.out.below (newT_nm hT)) Tryd.underlying31 rfl (by rw [ZK ()]; kernel_rfl) ⟨γ, newT_refl _ _, trivial, rfl⟩
  · refine owes_ifG rfl rfl (fun v w γ h => h) fun dn a W γ hT hdn hdp hJ hf hd => ?_
    have e12 := hf 12 rfl
    exact step_load_row 27 _ rfl ((eval_slot _ 12).trans e12) (b2.out.below (newT_nm hT)) Tryd.underlying27 rfl (by rw [ZH ()]; kernel_rfl) ⟨γ, newT_refl _ _, trivial, rfl⟩
  · refine owes_ifG rfl rfl (fun v w γ h => h) fun dn a W γ hT hdn hdp hJ hf hd => ?_
    have e13 := hf 13 rfl
    exact step_load_row 27 _ rfl ((eval_slot _ 13).trans e13) (b3.out.below (newT_nm hT)) Tryd.underlying27 rfl (by rw [ZA ()]; kernel_rfl) ⟨γ, newT_refl _ _, trivial, rfl⟩
  · refine owes_ifG rfl rfl (fun v w γ h => h) fun dn a W γ hT hdn hdp hJ hf hd => ?_
    obtain ⟨v34, d34, rfl⟩ := hd 34 rfl
    obtain ⟨v35, d35, rfl⟩ := hd 35 rfl
    obtain ⟨v36, d36, rfl⟩ := hd 36 rfl
    refine step_call (w' := W) (f := 20) (args := #[.agg KC, .agg XH, .agg XA]) (by simp only [execOp]; go_simp) ?_
    rw [HKC (), HXH (), HXA ()]
    refine (rsecret_calls key (HK ()) h p (HH ()) (HP ()) W ((HG.out.below n6).below (newT_nm hT))).mono ?_
    rintro e w' ⟨rfl, hb⟩
    exact ⟨_, rfl, γ, hb, trivial, by rw [HV32 ()]; rfl⟩
  · refine owes_ifG rfl rfl (fun v w γ h => h) fun dn a W γ hT hdn hdp hJ hf hd => ?_
    obtain ⟨v33, d33, rfl⟩ := hd 33 rfl
    obtain ⟨v37, d37, rfl⟩ := hd 37 rfl
    have hq := HEV.out W
    exact step_val (w' := W) (by simp only [execOp]; go_simp) ⟨γ, newT_refl _ _, trivial, rfl⟩
  · refine owes_plainG rfl fun dn a W γ hT hdn hdp hJ hf hd => ?_
    obtain ⟨v29, d29, rfl⟩ := hd 29 rfl
    obtain ⟨v38, d38, rfl⟩ := hd 38 rfl
    exact step_val (w' := W) (by simp only [execOp]; go_simp) ⟨γ, newT_refl _ _, trivial, rfl⟩
  · exact hp 39 rfl
  · intro vs w7 γ hT hvs
    have b0 := Lib.hid (b0.out.below (newT_nm hT))
    have b1 := Lib.hid (b1.out.below (newT_nm hT))
    have b2 := Lib.hid (b2.out.below (newT_nm hT))
    have b3 := Lib.hid (b3.out.below (newT_nm hT))
    have b4 := Lib.hid (b4.out.below (newT_nm hT))
    have b5 := Lib.hid (b5.out.below (newT_nm hT))
    have n7 : NewMem w w7 := NewMem.trans _ _ _ n6 (newT_nm hT)
    simp only [laid, Nat.reduceAdd, hvs]
    clear hT hvs n6 HEM HEV HR6 HM16 HV32 HCN HR HFL HLI HM
    go_wp2_with (first | (refine at_slot 106 ?_; refine wpList_load_row rfl 31 _ rfl (w.heap.size) rfl _ KC (0, 0) _ (b0.out) Tryd.underlying31 rfl (by rw [ZK ()]; kernel_rfl) ?_) | (refine at_slot 107 ?_; refine wpList_load_row rfl 27 _ rfl (w.heap.size + 2) rfl _ XH (0, 0) _ (b2.out) Tryd.underlying27 rfl (by rw [ZH ()]; kernel_rfl) ?_) | (refine at_slot 110 ?_; refine wpList_load_row rfl 24 _ rfl (w.heap.size + 1) rfl _ RC (0, 0) _ (b1.out) Tryd.underlying24 rfl (by rw [ZR ()]; kernel_rfl) ?_))
    rw [HKC (), HRC (), HXH ()]
    refine (answer_calls key (HK ()) h (HH ()) ses ep (B1 ()) (B2 ()) rnd (HRN ()) _ (HG.out.below n7)).mono ?_
    obtain ⟨AP, hAP⟩ : ∃ P, P = anP key h ses ep rnd := ⟨_, rfl⟩
    obtain ⟨Y, hY⟩ : ∃ X, X = AP.X := ⟨_, rfl⟩
    obtain ⟨SL, hSL⟩ : ∃ X, X = anS key h ses ep rnd := ⟨_, rfl⟩
    obtain ⟨SC, hSC⟩ : ∃ X, X = (bc SL).toArray := ⟨_, rfl⟩
    obtain ⟨NN, hNN⟩ : ∃ E, E = anN key h ses ep rnd := ⟨_, rfl⟩
    have KAP : Unit → AP.ok := fun _ => by rw [hAP]; exact anP_ok (B1 ()) (B2 ()) (HRN ())
    have BAP : Unit → AP.A = none ∧ AP.bl = [] ∧ AP.c = 0 := fun _ => by rw [hAP]; exact anP_bare _ _ _ _ _
    have ZY : Unit → Y.size = 38 := fun _ => by rw [hY]; exact PK.size (KAP ())
    have OY : Unit → Y.all (·.oneCell') = true := fun _ => by rw [hY]; exact PK.one _
    have hSLl : SL.length = 32 := by rw [hSL]; exact anS_length _ _ _ _ _
    have ZS : Unit → SC.size = 32 := fun _ => by rw [hSC, List.size_toArray, bc_length, hSLl]
    have OS : Unit → SC.all (·.oneCell') = true := fun _ => by rw [hSC]; exact bc_all _
    have hes : ∀ w : World, (Op.equalIn 10000 31 (.agg SC) (.agg SC)).run Tryd.prog w = .ok true w := fun w => by
      rw [hSC]
      have := eq32 w SL SL hSLl hSLl
      rwa [decide_eq_true rfl] at this
    have HES := Lib.hid hes
    have HAP := fun _ : Unit => hAP
    have HY := fun _ : Unit => hY
    have HSL := fun _ : Unit => hSL
    have HSC := fun _ : Unit => hSC
    have HNN := fun _ : Unit => hNN
    rw [← hAP, ← hY, ← hSL, ← hSC, ← hNN, ← HKC (), ← HRC (), ← HXH ()]
    clear hAP hY hSL hSC hNN hSLl hes
    rintro e w8 ⟨rfl, hb8⟩
    have b0 := Lib.hid (b0.out.below hb8)
    have b1 := Lib.hid (b1.out.below hb8)
    have b2 := Lib.hid (b2.out.below hb8)
    have b3 := Lib.hid (b3.out.below hb8)
    have b4 := Lib.hid (b4.out.below hb8)
    have b5 := Lib.hid (b5.out.below hb8)
    have n8 : NewMem w w8 := NewMem.trans _ _ _ n7 hb8
    clear n7 hb8
    obtain ⟨g3, hg3⟩ : ∃ g, g = w8.heap.size := ⟨_, rfl⟩
    have l0 : w.heap.size < w8.heap.size := b0.out.lt
    have l1 : w.heap.size + 1 < w8.heap.size := b1.out.lt
    have l2 : w.heap.size + 2 < w8.heap.size := b2.out.lt
    have l4 : g1 < w8.heap.size := b4.out.lt
    have l5 : g2 < w8.heap.size := b5.out.lt
    have l3 : w.heap.size + 3 < w8.heap.size := b3.out.lt
    go_wp2_with (first | (refine at_store 27 ?_; refine wpList_store_row rfl 27 _ _ rfl (g1) Y rfl rfl _ _ (b4.out.alloc _) (by rw [ZY ()]; kernel_rfl) (by rw [ZY (), ZP ()]) (OY ()) ?_) | (refine at_store 31 ?_; refine wpList_store_row rfl 31 _ _ rfl (w8.heap.size) SC rfl rfl _ _ ((Blk.new _ _ _).setRow_far (by omega) _) (by rw [ZS ()]; kernel_rfl) (by rw [ZS ()]; rfl) (OS ()) ?_) | (refine at_slot 116 ?_; refine wpList_load_row rfl 31 _ rfl (w.heap.size) rfl _ KC (0, 0) _ (((b0.out.alloc _).setRow_far (by omega) _).setRow_far (by omega) _) Tryd.underlying31 rfl (by rw [ZK ()]; kernel_rfl) ?_) | (refine at_slot 117 ?_; refine wpList_load_row rfl 27 _ rfl (w.heap.size + 2) rfl _ XH (0, 0) _ (((b2.out.alloc _).setRow_far (by omega) _).setRow_far (by omega) _) Tryd.underlying27 rfl (by rw [ZH ()]; kernel_rfl) ?_) | (refine at_slot 120 ?_; refine wpList_load_row rfl 24 _ rfl (w.heap.size + 1) rfl _ RC (0, 0) _ (((b1.out.alloc _).setRow_far (by omega) _).setRow_far (by omega) _) Tryd.underlying24 rfl (by rw [ZR ()]; kernel_rfl) ?_))
    generalize hw9 : World.setRow (World.setRow _ _ _) _ _ = w9
    have b6 : Hid (Blk w9 g3 31 SC) := by show Blk _ _ _ _; rw [← hw9, hg3]; exact ((Blk.new w8 _ (bc Z32).toArray).setRow_far (by omega) _).setRow _
    have b4 : Hid (Blk w9 g1 27 Y) := by show Blk _ _ _ _; rw [← hw9]; exact ((b4.out.alloc _).setRow _).setRow_far (by omega) _
    have b0 : Hid (Blk w9 w.heap.size 31 KC) := by show Blk _ _ _ _; rw [← hw9]; exact ((b0.out.alloc _).setRow_far (by omega) _).setRow_far (by omega) _
    have b1 : Hid (Blk w9 (w.heap.size + 1) 24 RC) := by show Blk _ _ _ _; rw [← hw9]; exact ((b1.out.alloc _).setRow_far (by omega) _).setRow_far (by omega) _
    have b2 : Hid (Blk w9 (w.heap.size + 2) 27 XH) := by show Blk _ _ _ _; rw [← hw9]; exact ((b2.out.alloc _).setRow_far (by omega) _).setRow_far (by omega) _
    have b3 : Hid (Blk w9 (w.heap.size + 3) 27 XA) := by show Blk _ _ _ _; rw [← hw9]; exact ((b3.out.alloc _).setRow_far (by omega) _).setRow_far (by omega) _
    have b5 : Hid (Blk w9 g2 27 XP) := by show Blk _ _ _ _; rw [← hw9]; exact ((b5.out.alloc _).setRow_far (by omega) _).setRow_far (by omega) _
    have n9 : NewMem w w9 := by rw [← hw9]; exact below_setRow_own (below_setRow_own (n8.more _) (by omega) _) (by omega) _
    have G3 : g2 < g3 := by rw [hg3]; exact l5
    rw [← hg3]
    clear hw9 n8 hg3 l0 l1 l2 l3 l4 l5
    rw [HKC (), HRC (), HXH ()]
    refine (ranswer_calls key (HK ()) h (HH ()) ses ep (B1 ()) (B2 ()) rnd (HRN ()) _ (HG.out.below n9)).mono ?_
    rw [← HAP (), ← HY (), ← HSL (), ← HSC (), ← HNN (), ← HKC (), ← HRC (), ← HXH ()]
    rintro e w10 ⟨rfl, hb10⟩
    have b0 := Lib.hid (b0.out.below hb10)
    have b1 := Lib.hid (b1.out.below hb10)
    have b2 := Lib.hid (b2.out.below hb10)
    have b3 := Lib.hid (b3.out.below hb10)
    have b4 := Lib.hid (b4.out.below hb10)
    have b5 := Lib.hid (b5.out.below hb10)
    have b6 := Lib.hid (b6.out.below hb10)
    have n10 : NewMem w w10 := NewMem.trans _ _ _ n9 hb10
    clear n9 hb10
    obtain ⟨g4, hg4⟩ : ∃ g, g = w10.heap.size := ⟨_, rfl⟩
    have l6 : g3 < w10.heap.size := b6.out.lt
    go_wp2_with (first | (refine at_store 27 ?_; refine wpList_store_row rfl 27 _ _ rfl (g2) Y rfl rfl _ _ (b5.out.alloc _) (by rw [ZY ()]; kernel_rfl) (by rw [ZY (), ZP ()]) (OY ()) ?_) | (refine at_store 31 ?_; refine wpList_store_row rfl 31 _ _ rfl (w10.heap.size) SC rfl rfl _ _ ((Blk.new _ _ _).setRow_far (by omega) _) (by rw [ZS ()]; kernel_rfl) (by rw [ZS ()]; rfl) (OS ()) ?_) | (refine at_slot 126 ?_; refine wpList_load_row rfl 31 _ rfl (w.heap.size) rfl _ KC (0, 0) _ (((b0.out.alloc _).setRow_far (by omega) _).setRow_far (by omega) _) Tryd.underlying31 rfl (by rw [ZK ()]; kernel_rfl) ?_) | (refine at_slot 127 ?_; refine wpList_load_row rfl 27 _ rfl (w.heap.size + 2) rfl _ XH (0, 0) _ (((b2.out.alloc _).setRow_far (by omega) _).setRow_far (by omega) _) Tryd.underlying27 rfl (by rw [ZH ()]; kernel_rfl) ?_) | (refine at_slot 128 ?_; refine wpList_load_row rfl 27 _ rfl (w.heap.size + 3) rfl _ XA (0, 0) _ (((b3.out.alloc _).setRow_far (by omega) _).setRow_far (by omega) _) Tryd.underlying27 rfl (by rw [ZA ()]; kernel_rfl) ?_))
    generalize hw11 : World.setRow (World.setRow _ _ _) _ _ = w11
    have b7 : Hid (Blk w11 g4 31 SC) := by show Blk _ _ _ _; rw [← hw11, hg4]; exact ((Blk.new w10 _ (bc Z32).toArray).setRow_far (by omega) _).setRow _
    have b5 : Hid (Blk w11 g2 27 Y) := by show Blk _ _ _ _; rw [← hw11]; exact ((b5.out.alloc _).setRow _).setRow_far (by omega) _
    have b4 : Hid (Blk w11 g1 27 Y) := by show Blk _ _ _ _; rw [← hw11]; exact ((b4.out.alloc _).setRow_far (by omega) _).setRow_far (by omega) _
    have b0 : Hid (Blk w11 w.heap.size 31 KC) := by show Blk _ _ _ _; rw [← hw11]; exact ((b0.out.alloc _).setRow_far (by omega) _).setRow_far (by omega) _
    have b2 : Hid (Blk w11 (w.heap.size + 2) 27 XH) := by show Blk _ _ _ _; rw [← hw11]; exact ((b2.out.alloc _).setRow_far (by omega) _).setRow_far (by omega) _
    have b3 : Hid (Blk w11 (w.heap.size + 3) 27 XA) := by show Blk _ _ _ _; rw [← hw11]; exact ((b3.out.alloc _).setRow_far (by omega) _).setRow_far (by omega) _
    have b6 : Hid (Blk w11 g3 31 SC) := by show Blk _ _ _ _; rw [← hw11]; exact ((b6.out.alloc _).setRow_far (by omega) _).setRow_far (by omega) _
    have n11 : NewMem w w11 := by rw [← hw11]; exact below_setRow_own (below_setRow_own (n10.more _) (by omega) _) (by omega) _
    have G4 : g3 < g4 := by rw [hg4]; exact l6
    rw [← hg4]
    clear hw11 n10 hg4 l6 b1
    rw [HKC (), HXH (), HXA ()]
    refine (canswer_calls key (HK ()) h p (HH ()) (HP ()) _ (HG.out.below n11)).mono ?_
    obtain ⟨DL, hDL⟩ : ∃ X, X = caS key h p := ⟨_, rfl⟩
    obtain ⟨DC, hDC⟩ : ∃ X, X = (bc DL).toArray := ⟨_, rfl⟩
    obtain ⟨DN, hDN⟩ : ∃ E, E = caN key h p := ⟨_, rfl⟩
    have hDLl : DL.length = 32 := by rw [hDL]; exact caS_length _ _ _
    have ZD : Unit → DC.size = 32 := fun _ => by rw [hDC, List.size_toArray, bc_length, hDLl]
    have OD : Unit → DC.all (·.oneCell') = true := fun _ => by rw [hDC]; exact bc_all _
    have hed : ∀ w : World, (Op.equalIn 10000 31 (.agg DC) (.agg DC)).run Tryd.prog w = .ok true w := fun w => by
      rw [hDC]
      have := eq32 w DL DL hDLl hDLl
      rwa [decide_eq_true rfl] at this
    have HED := Lib.hid hed
    have HDL := fun _ : Unit => hDL
    have HDC := fun _ : Unit => hDC
    have HDN := fun _ : Unit => hDN
    rw [← hDL, ← hDC, ← hDN, ← HKC (), ← HXH (), ← HXA ()]
    clear hDL hDC hDN hDLl hed
    rintro e w12 ⟨rfl, hb12⟩
    have b0 := Lib.hid (b0.out.below hb12)
    have b2 := Lib.hid (b2.out.below hb12)
    have b3 := Lib.hid (b3.out.below hb12)
    have b4 := Lib.hid (b4.out.below hb12)
    have b5 := Lib.hid (b5.out.below hb12)
    have b6 := Lib.hid (b6.out.below hb12)
    have b7 := Lib.hid (b7.out.below hb12)
    have n12 : NewMem w w12 := NewMem.trans _ _ _ n11 hb12
    clear n11 hb12
    obtain ⟨g5, hg5⟩ : ∃ g, g = w12.heap.size := ⟨_, rfl⟩
    have l7 : g4 < w12.heap.size := b7.out.lt
    go_wp2_with (first | (refine at_store 31 ?_; refine wpList_store_row rfl 31 _ _ rfl (w12.heap.size) DC rfl rfl _ _ (Blk.new _ _ _) (by rw [ZD ()]; kernel_rfl) (by rw [ZD ()]; rfl) (OD ()) ?_) | (refine at_slot 133 ?_; refine wpList_load_row rfl 31 _ rfl (w.heap.size) rfl _ KC (0, 0) _ ((b0.out.alloc _).setRow_far (by omega) _) Tryd.underlying31 rfl (by rw [ZK ()]; kernel_rfl) ?_) | (refine at_slot 134 ?_; refine wpList_load_row rfl 27 _ rfl (w.heap.size + 2) rfl _ XH (0, 0) _ ((b2.out.alloc _).setRow_far (by omega) _) Tryd.underlying27 rfl (by rw [ZH ()]; kernel_rfl) ?_) | (refine at_slot 135 ?_; refine wpList_load_row rfl 27 _ rfl (w.heap.size + 3) rfl _ XA (0, 0) _ ((b3.out.alloc _).setRow_far (by omega) _) Tryd.underlying27 rfl (by rw [ZA ()]; kernel_rfl) ?_))
    generalize hw13 : World.setRow _ _ _ = w13
    have n1213 : NewMem w12 w13 := by rw [← hw13]; exact below_setRow_own (NewMem.alloc _ _) (Nat.le_refl _) _
    have b8 : Hid (Blk w13 g5 31 DC) := by show Blk _ _ _ _; rw [← hw13, hg5]; exact (Blk.new w12 _ (bc Z32).toArray).setRow _
    have b4 := Lib.hid (b4.out.below n1213)
    have b5 := Lib.hid (b5.out.below n1213)
    have b6 := Lib.hid (b6.out.below n1213)
    have b7 := Lib.hid (b7.out.below n1213)
    have n13 : NewMem w w13 := NewMem.trans _ _ _ n12 n1213
    have G5 : g4 < g5 := by rw [hg5]; exact l7
    rw [← hg5]
    clear hw13 n1213 n12 hg5 l7 b0 b2 b3
    rw [HKC (), HXH (), HXA ()]
    refine (rcanswer_calls key (HK ()) h p (HH ()) (HP ()) _ (HG.out.below n13)).mono ?_
    rw [← HDL (), ← HDC (), ← HDN (), ← HKC (), ← HXH (), ← HXA ()]
    rintro e w14 ⟨rfl, hb14⟩
    have b4 := Lib.hid (b4.out.below hb14)
    have b5 := Lib.hid (b5.out.below hb14)
    have b6 := Lib.hid (b6.out.below hb14)
    have b7 := Lib.hid (b7.out.below hb14)
    have b8 := Lib.hid (b8.out.below hb14)
    have n14 : NewMem w w14 := NewMem.trans _ _ _ n13 hb14
    clear n13 hb14
    obtain ⟨g6, hg6⟩ : ∃ g, g = w14.heap.size := ⟨_, rfl⟩
    have l8 : g5 < w14.heap.size := b8.out.lt
    go_wp2_with (first | (refine at_store 31 ?_; refine wpList_store_row rfl 31 _ _ rfl (w14.heap.size) DC rfl rfl _ _ (Blk.new _ _ _) (by rw [ZD ()]; kernel_rfl) (by rw [ZD ()]; rfl) (OD ()) ?_) | (refine at_slot 139 ?_; refine wpList_load_row rfl 27 _ rfl (g1) rfl _ Y (0, 0) _ ((b4.out.alloc _).setRow_far (by omega) _) Tryd.underlying27 rfl (by rw [ZY ()]; kernel_rfl) ?_) | (refine at_slot 140 ?_; refine wpList_load_row rfl 27 _ rfl (g2) rfl _ Y (0, 0) _ ((b5.out.alloc _).setRow_far (by omega) _) Tryd.underlying27 rfl (by rw [ZY ()]; kernel_rfl) ?_))
    generalize hw15 : World.setRow _ _ _ = w15
    have n1415 : NewMem w14 w15 := by rw [← hw15]; exact below_setRow_own (NewMem.alloc _ _) (Nat.le_refl _) _
    have b9 : Hid (Blk w15 g6 31 DC) := by show Blk _ _ _ _; rw [← hw15, hg6]; exact (Blk.new w14 _ (bc Z32).toArray).setRow _
    have b6 := Lib.hid (b6.out.below n1415)
    have b7 := Lib.hid (b7.out.below n1415)
    have b8 := Lib.hid (b8.out.below n1415)
    have n15 : NewMem w w15 := NewMem.trans _ _ _ n14 n1415
    rw [← hg6]
    clear hw15 n1415 n14 hg6 l8 b4 b5
    rw [HY ()]
    refine (packet_same AP (KAP ()) (BAP ()).1 (BAP ()).2.1 (BAP ()).2.2 _).mono ?_
    rw [← HY ()]
    rintro e w16 ⟨rfl, hb16⟩
    have b6 := Lib.hid (b6.out.below hb16)
    have b7 := Lib.hid (b7.out.below hb16)
    have b8 := Lib.hid (b8.out.below hb16)
    have b9 := Lib.hid (b9.out.below hb16)
    have n16 : NewMem w w16 := NewMem.trans _ _ _ n15 hb16
    clear n15 hb16
    have hes := HES.out
    have hed := HED.out
    go_wp2_with (first | (refine at_slot 143 ?_; refine wpList_load_rd_if rfl 31 _ rfl ⟨g3, 0, none⟩ rfl SC.toList _ (blkC (b6.out)) Tryd.underlying31 rfl (by rw [Array.length_toList, ZS ()]; kernel_rfl) ?_; rw [Array.toArray_toList]) | (refine at_slot 144 ?_; refine wpList_load_rd_if rfl 31 _ rfl ⟨g4, 0, none⟩ rfl SC.toList _ (blkC (b7.out)) Tryd.underlying31 rfl (by rw [Array.length_toList, ZS ()]; kernel_rfl) ?_; rw [Array.toArray_toList]) | (refine at_slot 153 ?_; refine wpList_load_rd_if rfl 31 _ rfl ⟨g5, 0, none⟩ rfl DC.toList _ (blkC (b8.out)) Tryd.underlying31 rfl (by rw [Array.length_toList, ZD ()]; kernel_rfl) ?_; rw [Array.toArray_toList]) | (refine at_slot 154 ?_; refine wpList_load_rd_if rfl 31 _ rfl ⟨g6, 0, none⟩ rfl DC.toList _ (blkC (b9.out)) Tryd.underlying31 rfl (by rw [Array.length_toList, ZD ()]; kernel_rfl) ?_; rw [Array.toArray_toList]))
    go_ret
    exact ⟨rfl, n16⟩
end Go.Proofs.YtbhaekdfpfncnaaDoor
