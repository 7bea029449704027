/- shake.Answer. -/
import Derived.Test.YtbhaekdfpfncnaaDoorShG
namespace Go.Proofs.YtbhaekdfpfncnaaDoor
set_option linter.unusedVariables false
set_option linter.unusedSimpArgs false
open Go.RowKit

/-- What Answer says, the packet that it makes, the secret. -/
def anN (key : List UInt8) (h : PK) (ses ep : Nat) (rnd : List UInt8) : Int := if chN key h = 0 then (if chkB (aPK ses ep rnd Z16) then 0 else 2) else chN key h
def anP (key : List UInt8) (h : PK) (ses ep : Nat) (rnd : List UInt8) : PK := if anN key h ses ep rnd = 0 then aPK ses ep rnd (ansF key h (aPK ses ep rnd Z16)) else zPK
def anS (key : List UInt8) (h : PK) (ses ep : Nat) (rnd : List UInt8) : List UInt8 := if anN key h ses ep rnd = 0 then secF key h (aPK ses ep rnd Z16) else Z32
theorem anP_ok {key : List UInt8} {h : PK} {ses ep : Nat} {rnd : List UInt8} (hs : ses < 18446744073709551616) (he : ep < 4294967296) (hr : rnd.length = 16) : (anP key h ses ep rnd).ok := by
  unfold anP
  split
  · exact aPK_ok hs he hr (ansF_length _ _ _)
  · exact zPK_ok
theorem anS_length (key : List UInt8) (h : PK) (ses ep : Nat) (rnd : List UInt8) : (anS key h ses ep rnd).length = 32 := by
  unfold anS
  split
  · exact secF_length _ _ _
  · rfl
/-- Two blocks may turn. -/
def twoT (m k : Nat) (w : World) (_ : Unit) (w' : World) (_ : Unit) : Prop := Fr (fun b => b = m ∨ b = k) w w'
theorem twoT_refl (m k : Nat) (w : World) (γ : Unit) : twoT m k w γ w γ := Fr.refl _ _
theorem twoT_trans (m k : Nat) (a : World) (α : Unit) (b : World) (β : Unit) (c : World) (δ : Unit) (h : twoT m k a α b β) (g : twoT m k b β c δ) : twoT m k a α c δ := Fr.trans h g
theorem twoT_fr {m k : Nat} {w W : World} {γ γ' : Unit} (h : twoT m k w.drew γ W γ') : Fr (fun b => b = m ∨ b = k) w W := ⟨h.os, h.tape, h.output, h.size, h.block⟩
def ansJ (m k : Nat) (tm tk : TypeId) (c0 c1 d0 d1 : Array Value) (dn : Nat → Bool) (w : World) (_ : Unit) : Prop := Blk w m tm (if dn 5 then c1 else c0) ∧ Blk w k tk (if dn 6 then d1 else d0)
theorem ansJ_ne {m k : Nat} {tm tk : TypeId} {c0 c1 d0 d1 : Array Value} {dn : Nat → Bool} {w w' : World} {γ γ' : Unit} {i : Nat} (h5 : 5 ≠ i) (h6 : 6 ≠ i) (h : ansJ m k tm tk c0 c1 d0 d1 dn w γ) (hw : NewMem w w') : ansJ m k tm tk c0 c1 d0 d1 (did dn i) w' γ' := by
  unfold ansJ did
  rw [if_neg h5, if_neg h6]
  exact ⟨h.1.below hw, h.2.below hw⟩
theorem ansJ_five {m k : Nat} {tm tk : TypeId} {c0 c1 d0 d1 : Array Value} {dn : Nat → Bool} {w : World} {γ : Unit} (hm : m ≠ k) (hn : dn 5 = false) (h : ansJ m k tm tk c0 c1 d0 d1 dn w γ) : Blk w m tm c0 ∧ ansJ m k tm tk c0 c1 d0 d1 (did dn 5) (w.setRow m c1) γ := by
  unfold ansJ at h ⊢
  rw [hn, if_neg (by decide)] at h
  refine ⟨h.1, ?_, ?_⟩
  · rw [show did dn 5 5 = true from by simp [did], if_pos rfl]
    exact h.1.setRow _
  · rw [show did dn 5 6 = dn 6 from by simp [did]]
    exact h.2.setRow_far (Ne.symm hm) _
theorem ansJ_six {m k : Nat} {tm tk : TypeId} {c0 c1 d0 d1 : Array Value} {dn : Nat → Bool} {w : World} {γ : Unit} (hm : m ≠ k) (hn : dn 6 = false) (h : ansJ m k tm tk c0 c1 d0 d1 dn w γ) : Blk w k tk d0 ∧ ansJ m k tm tk c0 c1 d0 d1 (did dn 6) (w.setRow k d1) γ := by
  unfold ansJ at h ⊢
  rw [hn] at h
  have h2 : Blk w k tk d0 := h.2
  refine ⟨h2, ?_, ?_⟩
  · rw [show did dn 6 5 = dn 5 from by simp [did]]
    exact h.1.setRow_far hm _
  · rw [show did dn 6 6 = true from by simp [did], if_pos rfl]
    exact h2.setRow _
theorem none_two {G : Type} {ops : Array Oper} {pr : Nat → Value → World → G → Prop} (K L : Nat) (h : (ops.toList.zipIdx.all fun p => p.1.dst.isSome || (Nat.beq p.2 K || Nat.beq p.2 L)) = true) (hp : ∀ v w γ, pr K v w γ → pr K undef w γ) (hq : ∀ v w γ, pr L v w γ → pr L undef w γ) : ∀ (i : Nat) (o : Oper), ops[i]? = some o → o.dst = none → ∀ v w γ, pr i v w γ → pr i undef w γ := by
  intro i o ho hn
  have := List.all_eq_true.1 h (o, i) (by rw [List.mem_zipIdx_iff_getElem?]; simpa using ho)
  simp [hn] at this
  rcases this with rfl | rfl
  · exact hp
  · exact hq

/-- A store of this type stands next. -/
theorem at_store {P : Program} {ops : Array Oper} {rest : List Oper} {a : Act} {w : World} {Q : Exit → Act → World → Prop} (t : TypeId) {x y : Operand} {ty : TypeId} {ps : String} {af : Array Edge} {gd : Option (Nat × Bool)}
    (h : wpList P ops Q ({ dst := none, op := .store t x y, type := ty, pos := ps, after := af, guard := gd } :: rest) a w) : wpList P ops Q ({ dst := none, op := .store t x y, type := ty, pos := ps, after := af, guard := gd } :: rest) a w := h
theorem alloc5_0 (w : World) (cs : Array Value) (t : TypeId) (o1 o2 o3 o4 : Obj) : (((((w.alloc (.cells cs t)).alloc o1).alloc o2).alloc o3).alloc o4).heap[w.heap.size]? = some (.cells cs t (0, 0)) := ((((Blk.new w t cs).alloc o1).alloc o2).alloc o3).alloc o4
theorem alloc5_1 (w : World) (o : Obj) (cs : Array Value) (t : TypeId) (o2 o3 o4 : Obj) : (((((w.alloc o).alloc (.cells cs t)).alloc o2).alloc o3).alloc o4).heap[w.heap.size + 1]? = some (.cells cs t (0, 0)) := (((Blk.newAt t cs (by simp)).alloc o2).alloc o3).alloc o4
set_option maxHeartbeats 4000000 in
theorem answer_calls (key : List UInt8) (hk : key.length = 32) (h : PK) (hh : h.ok) (ses ep : Nat) (hses : ses < 18446744073709551616) (hep : ep < 4294967296) (rnd : List UInt8) (hr : rnd.length = 16) (w : World) (hG : Glb w) :
    Calls Tryd.prog 9 #[.agg (bc key).toArray, .agg h.X, .int .u64 (ses : Int), .int .u32 (ep : Int), .agg (bc rnd).toArray] w fun e w' => e = .returned (.tuple #[.agg (anP key h ses ep rnd).X, .agg (bc (anS key h ses ep rnd)).toArray, .int .i64 (anN key h ses ep rnd)]) ∧ Below w.heap.size w w' := by
  have HG := Lib.hid hG
  have HK := fun _ : Unit => hk
  have HH := fun _ : Unit => hh
  have HR := fun _ : Unit => hr
  have hks : (bc key).toArray.size = 32 := by rw [List.size_toArray, bc_length, hk]
  have HKS := fun _ : Unit => hks
  have HOK := fun _ : Unit => aPK_ok hses hep hr z16_len
  have HB := fun _ : Unit => built_a ses ep rnd hr
  have hz32 := fun (w : World) => run_build (P := Tryd.prog) w 31 #[] (bc Z32).toArray built_z32
  have hzpk := fun (w : World) => run_build (P := Tryd.prog) w 27 #[] zPK.X built_z
  obtain ⟨N, hN⟩ : ∃ N, N = anN key h ses ep rnd := ⟨_, rfl⟩
  obtain ⟨S, hS⟩ : ∃ S, S = anS key h ses ep rnd := ⟨_, rfl⟩
  obtain ⟨pp, hpp⟩ : ∃ pp, pp = anP key h ses ep rnd := ⟨_, rfl⟩
  have HN := fun _ : Unit => hN
  have HS := fun _ : Unit => hS
  have HPP := fun _ : Unit => hpp
  obtain ⟨X, hX⟩ : ∃ X, X = h.X := ⟨_, rfl⟩
  obtain ⟨Y, hY⟩ : ∃ Y, Y = (aPK ses ep rnd Z16).X := ⟨_, rfl⟩
  have hXs : X.size = 38 := by rw [hX]; exact PK.size hh
  have hYs : Y.size = 38 := by rw [hY]; exact PK.size (HOK ())
  have hY1 : Y.all (·.oneCell') = true := by rw [hY]; exact PK.one _
  have HX := fun _ : Unit => hX
  have HY := fun _ : Unit => hY
  have HXS := fun _ : Unit => hXs
  have HYS := fun _ : Unit => hYs
  have HY1 := fun _ : Unit => hY1
  rw [← hX, ← hN, ← hS, ← hpp]
  rw [← hY] at HB
  clear hG hk hh hr hks hX hY hXs hYs hY1 hN hS hpp hses hep
  go_enter Tryd.func9, Tryd.ntmps9
  go_wp2_with (first | (refine at_slot 16 ?_; refine wpList_load_row rfl 31 _ rfl w.heap.size rfl _ (bc key).toArray (0, 0) _ (alloc5_0 w _ _ _ _ _ _) Tryd.underlying31 rfl (by rw [HKS ()]; kernel_rfl) ?_) | (refine at_slot 17 ?_; refine wpList_load_row rfl 27 _ rfl (w.heap.size + 1) rfl _ X (0, 0) _ (alloc5_1 w _ _ _ _ _ _) Tryd.underlying27 rfl (by rw [HXS ()]; kernel_rfl) ?_))
  generalize hw1 : World.alloc (World.alloc (World.alloc (World.alloc (World.alloc w _) _) _) _) _ = w1
  have b0 : Hid (Blk w1 w.heap.size 31 (bc key).toArray) := by show Blk _ _ _ _; rw [← hw1]; exact ((((Blk.new _ _ _).alloc _).alloc _).alloc _).alloc _
  have b1 : Hid (Blk w1 (w.heap.size + 1) 27 X) := by show Blk _ _ _ _; rw [← hw1]; exact (((Blk.newAt _ _ (by simp)).alloc _).alloc _).alloc _
  have b2 : Hid (Blk w1 (w.heap.size + 2) 24 (bc rnd).toArray) := by show Blk _ _ _ _; rw [← hw1]; exact ((Blk.newAt _ _ (by simp)).alloc _).alloc _
  have b3 : Hid (Blk w1 (w.heap.size + 3) 27 zPK.X) := by show Blk _ _ _ _; rw [← hw1]; exact (Blk.newAt _ _ (by simp)).alloc _
  have b4 : Hid (Blk w1 (w.heap.size + 4) 31 (bc Z32).toArray) := by show Blk _ _ _ _; rw [← hw1]; exact Blk.newAt _ _ (by simp)
  have n1 : NewMem w w1 := by rw [← hw1]; exact ((((NewMem.alloc _ _).more _).more _).more _).more _
  clear hw1
  rw [HX ()]
  refine (chello_calls key (HK ()) h (HH ()) _ (HG.out.below n1)).mono ?_
  rw [← HX ()]
  rintro e w2 ⟨rfl, hb2⟩
  have b0 := Lib.hid (b0.out.below hb2)
  have b1 := Lib.hid (b1.out.below hb2)
  have b2 := Lib.hid (b2.out.below hb2)
  have b3 := Lib.hid (b3.out.below hb2)
  have b4 := Lib.hid (b4.out.below hb2)
  have n2 : NewMem w w2 := NewMem.trans _ _ _ n1 hb2
  clear n1 hb2
  have hNd : N = if chN key h = 0 then (if chkB (aPK ses ep rnd Z16) then 0 else 2) else chN key h := HN ()
  have hSd : S = if N = 0 then secF key h (aPK ses ep rnd Z16) else Z32 := by rw [HS (), HN ()]; rfl
  have hPd : pp = if N = 0 then aPK ses ep rnd (ansF key h (aPK ses ep rnd Z16)) else zPK := by rw [HPP (), HN ()]; rfl
  obtain ⟨C, hC⟩ : ∃ C, C = chN key h := ⟨_, rfl⟩
  rw [← hC] at hNd ⊢
  clear hC
  by_cases hc0 : C = 0
  rotate_left
  · rw [if_neg hc0] at hNd
    rw [hNd, if_neg hc0] at hSd hPd
    have E1 := fun _ : Unit => hNd
    have E2 := fun _ : Unit => hSd
    have E3 := fun _ : Unit => hPd
    clear hNd hSd hPd
    go_wp2_with (first | (refine at_store 27 ?_; refine wpList_store_row rfl 27 _ _ rfl (w.heap.size + 3) zPK.X rfl rfl _ _ b3.out (by kernel_rfl) rfl (PK.one _) ?_) | (refine at_store 31 ?_; refine wpList_store_row rfl 31 _ _ rfl (w.heap.size + 4) (bc Z32).toArray rfl rfl _ _ (b4.out.setRow_far (by omega) _) (by kernel_rfl) rfl (bc_all _) ?_))
    refine bodyPost_ret (run_results3 rfl _ _ (w.heap.size + 3) 27 zPK.X _ rfl ((b3.out.setRow _).setRow_far (by omega) _) Tryd.underlying27 rfl (by kernel_rfl) (w.heap.size + 4) 31 (bc Z32).toArray _ rfl ((b4.out.setRow_far (by omega) _).setRow _) Tryd.underlying31 rfl (by kernel_rfl)) rfl ?_
    exact ⟨by rw [E1 (), E2 (), E3 ()]; rfl, below_setRow_own (below_setRow_own n2 (by omega) _) (by omega) _⟩
  rw [if_pos hc0] at hNd
  subst hc0
  obtain ⟨g, hg⟩ : ∃ g, g = w2.heap.size := ⟨_, rfl⟩
  have hgl : w.heap.size + 5 ≤ g := by have := b4.out.lt; omega
  have hrd := rd_blk b2.out
  have HC2 : Hid (∀ (j : Nat) (v : Value), (bc rnd)[j]? = some v → w2.cell? ((⟨w.heap.size + 2, 0, none⟩ : Addr).add j) = some v) := Lib.hid fun j v hv => by
    obtain ⟨ad, e', _, h'⟩ := hrd j v hv
    cases e'
    exact h'
  clear hrd
  go_wp2_with (first | (refine at_slot 26 ?_; refine wpList_load_rd rfl 24 _ rfl ⟨w.heap.size + 2, 0, none⟩ rfl (bc rnd) _ HC2.out Tryd.underlying24 rfl (by rw [bc_length, HR ()]; kernel_rfl) ?_) | (refine at_slot 27 ?_; refine wpList_build_to rfl 27 _ rfl Y (HB ()) ?_) | (refine at_store 27 ?_; refine wpList_store_row rfl 27 _ _ rfl w2.heap.size Y rfl rfl _ _ (Blk.new _ _ _) (by rw [HYS ()]; kernel_rfl) (by rw [HYS ()]; rfl) (HY1 ()) ?_) | (refine at_slot 28 ?_; refine wpList_load_row rfl 27 _ rfl w2.heap.size rfl _ Y (0, 0) _ ((Blk.new _ _ _).setRow _) Tryd.underlying27 rfl (by rw [HYS ()]; kernel_rfl) ?_))
  generalize hw3 : World.setRow _ _ _ = w3
  have n23 : NewMem w2 w3 := by rw [← hw3]; exact below_setRow_own (NewMem.alloc _ _) (Nat.le_refl _) _
  have b5 : Hid (Blk w3 g 27 Y) := by show Blk _ _ _ _; rw [← hw3, hg]; exact (Blk.new _ _ zPK.X).setRow _
  have b0 := Lib.hid (b0.out.below n23)
  have b1 := Lib.hid (b1.out.below n23)
  have b3 := Lib.hid (b3.out.below n23)
  have b4 := Lib.hid (b4.out.below n23)
  have n3 : NewMem w w3 := NewMem.trans _ _ _ n2 n23
  rw [← hg]
  clear hw3 hg n23 n2 HC2 b2
  rw [HY ()]
  refine (check_calls _ (HOK ()) _).mono ?_
  rw [← HY ()]
  rintro e w4 ⟨rfl, hb4⟩
  have b0 := Lib.hid (b0.out.below hb4)
  have b1 := Lib.hid (b1.out.below hb4)
  have b3 := Lib.hid (b3.out.below hb4)
  have b5 := Lib.hid (b5.out.below hb4)
  have b4 := Lib.hid (b4.out.below hb4)
  have n4 : NewMem w w4 := NewMem.trans _ _ _ n3 hb4
  clear n3 hb4
  cases hcb : chkB (aPK ses ep rnd Z16)
  · rw [hcb, if_neg (by decide)] at hNd
    rw [hNd, if_neg (by decide)] at hSd hPd
    have E1 := fun _ : Unit => hNd
    have E2 := fun _ : Unit => hSd
    have E3 := fun _ : Unit => hPd
    clear hNd hSd hPd hcb
    simp only [resN]
    go_wp2_with (first | (refine at_store 27 ?_; refine wpList_store_row rfl 27 _ _ rfl (w.heap.size + 3) zPK.X rfl rfl _ _ b3.out (by kernel_rfl) rfl (PK.one _) ?_) | (refine at_store 31 ?_; refine wpList_store_row rfl 31 _ _ rfl (w.heap.size + 4) (bc Z32).toArray rfl rfl _ _ (b4.out.setRow_far (by omega) _) (by kernel_rfl) rfl (bc_all _) ?_))
    refine bodyPost_ret (run_results3 rfl _ _ (w.heap.size + 3) 27 zPK.X _ rfl ((b3.out.setRow _).setRow_far (by omega) _) Tryd.underlying27 rfl (by kernel_rfl) (w.heap.size + 4) 31 (bc Z32).toArray _ rfl ((b4.out.setRow_far (by omega) _).setRow _) Tryd.underlying31 rfl (by kernel_rfl)) rfl ?_
    exact ⟨by rw [E1 (), E2 (), E3 ()]; rfl, below_setRow_own (below_setRow_own n4 (by omega) _) (by omega) _⟩
  rw [hcb, if_pos rfl] at hNd
  rw [hNd, if_pos rfl] at hSd hPd
  clear hcb
  simp only [resN]
  obtain ⟨z, hz⟩ : ∃ z, z = ansF key h (aPK ses ep rnd Z16) := ⟨_, rfl⟩
  have hzl : z.length = 16 := by rw [hz]; exact ansF_length _ _ _
  rw [← hz] at hPd
  have hmid : midC Y 21 (bc z) = pp.X := by rw [hPd, HY (), mid_mark (HOK ()) z hzl]; rfl
  have hppok : pp.ok := by rw [hPd]; exact aPK_ok (HOK ()).ses (HOK ()).ep (HR ()) hzl
  have hsec : secF key h pp = S := by rw [hSd, hPd]; rfl
  have hSl : S.length = 32 := by rw [hSd]; exact secF_length _ _ _
  obtain ⟨V, hV⟩ : ∃ V, V = pp.X := ⟨_, rfl⟩
  rw [← hV] at hmid
  have HZ := fun _ : Unit => hz
  have HZL : Unit → (bc z).length = 16 := fun _ => by rw [bc_length, hzl]
  have HMID := fun _ : Unit => hmid
  have HPOK := fun _ : Unit => hppok
  have HSEC := fun _ : Unit => hsec
  have HSL : Unit → (bc S).toArray.size = 32 := fun _ => by rw [List.size_toArray, bc_length, hSl]
  have HV := fun _ : Unit => hV
  have HVS : Unit → V.size = 38 := fun _ => by rw [hV]; exact PK.size hppok
  have HV1 : Unit → V.all (·.oneCell') = true := fun _ => by rw [hV]; exact PK.one _
  have E1 := fun _ : Unit => hNd
  clear hNd hSd hPd hmid hppok hsec hSl hz hzl hV
  go_wp2_with (first | (refine at_slot 34 ?_; refine wpList_load_row rfl 31 _ rfl w.heap.size rfl _ (bc key).toArray (0, 0) _ b0.out Tryd.underlying31 rfl (by rw [HKS ()]; kernel_rfl) ?_) | (refine at_slot 35 ?_; refine wpList_load_row rfl 27 _ rfl (w.heap.size + 1) rfl _ X (0, 0) _ b1.out Tryd.underlying27 rfl (by rw [HXS ()]; kernel_rfl) ?_) | (refine at_slot 36 ?_; refine wpList_load_row rfl 27 _ rfl g rfl _ Y (0, 0) _ b5.out Tryd.underlying27 rfl (by rw [HYS ()]; kernel_rfl) ?_))
  rw [HX (), HY ()]
  refine (amark_calls key (HK ()) h _ (HH ()) (HOK ()) w4 (HG.out.below n4)).mono ?_
  rw [← HX (), ← HY (), ← HZ ()]
  rintro e w5 ⟨rfl, hb5⟩
  have b0 := Lib.hid (b0.out.below hb5)
  have b1 := Lib.hid (b1.out.below hb5)
  have b3 := Lib.hid (b3.out.below hb5)
  have b5 := Lib.hid (b5.out.below hb5)
  have b4 := Lib.hid (b4.out.below hb5)
  have n5 : NewMem w w5 := NewMem.trans _ _ _ n4 hb5
  clear n4 hb5
  go_wp2_with (refine at_store 24 ?_; refine wpList_store_at rfl 24 _ _ rfl g 21 (bc z) rfl rfl _ _ b5.out (by rw [HZL (), HYS ()]; decide) (bc_one z) (by rw [HZL ()]; kernel_rfl) ?_)
  rw [HMID ()]
  have b0 := Lib.hid (b0.out.setRow_far (k := g) (by omega) V)
  have b1 := Lib.hid (b1.out.setRow_far (k := g) (by omega) V)
  have b3 := Lib.hid (b3.out.setRow_far (k := g) (by omega) V)
  have b4 := Lib.hid (b4.out.setRow_far (k := g) (by omega) V)
  have b5 := Lib.hid (b5.out.setRow V)
  have n6 : NewMem w (w5.setRow g V) := below_setRow_own n5 (by omega) _
  generalize w5.setRow g V = w6 at *
  clear n5
  refine region_toG (T := twoT (w.heap.size + 3) (w.heap.size + 4)) (J := ansJ (w.heap.size + 3) (w.heap.size + 4) 27 31 zPK.X V (bc Z32).toArray (bc S).toArray) (twoT_trans _ _) (twoT_refl _ _) () (fun vs W γ => Blk W (w.heap.size + 3) 27 V ∧ Blk W (w.heap.size + 4) 31 (bc S).toArray ∧ vs 7 = .int .i64 0) (by kernel_rfl) (by kernel_rfl) (by kernel_rfl) ⟨b3.out, b4.out⟩ ⟨prOfG
    [.is (.agg V), .is (.agg (bc key).toArray), .is (.agg X), .is (.agg V), .is (.agg (bc S).toArray), .any, .any, .is (.int .i64 0)], prOfG_st _, none_two 5 6 (by kernel_rfl) (fun _ _ _ h => trivial) (fun _ _ _ h => trivial), ⟨?_, ?_, ?_, ?_, ?_, ?_, ?_, ?_, trivial⟩, fun vs W γ hT hJ hp => ⟨?_, ?_, hp 7 rfl⟩⟩ ?_
  · refine owes_plainG rfl fun dn a W γ hT hdn hdp hJ hf hd => ?_
    have e14 := hf 14 rfl
    exact step_load_row 27 _ rfl ((eval_slot _ 14).trans e14) (b5.out.keep (twoT_fr hT) (by omega)) Tryd.underlying27 rfl (by rw [HVS ()]; kernel_rfl) ⟨γ, twoT_refl _ _ _ _, ansJ_ne (by decide) (by decide) hJ (NewMem.refl _), rfl⟩
  · refine owes_plainG rfl fun dn a W γ hT hdn hdp hJ hf hd => ?_
    have e5 := hf 5 rfl
    exact step_load_row 31 _ rfl ((eval_slot _ 5).trans e5) (b0.out.keep (twoT_fr hT) (by omega)) Tryd.underlying31 rfl (by rw [HKS ()]; kernel_rfl) ⟨γ, twoT_refl _ _ _ _, ansJ_ne (by decide) (by decide) hJ (NewMem.refl _), rfl⟩
  · refine owes_plainG rfl fun dn a W γ hT hdn hdp hJ hf hd => ?_
    have e6 := hf 6 rfl
    exact step_load_row 27 _ rfl ((eval_slot _ 6).trans e6) (b1.out.keep (twoT_fr hT) (by omega)) Tryd.underlying27 rfl (by rw [HXS ()]; kernel_rfl) ⟨γ, twoT_refl _ _ _ _, ansJ_ne (by decide) (by decide) hJ (NewMem.refl _), rfl⟩
  · refine owes_plainG rfl fun dn a W γ hT hdn hdp hJ hf hd => ?_
    have e14 := hf 14 rfl
    exact step_load_row 27 _ rfl ((eval_slot _ 14).trans e14) (b5.out.keep (twoT_fr hT) (by omega)) Tryd.underlying27 rfl (by rw [HVS ()]; kernel_rfl) ⟨γ, twoT_refl _ _ _ _, ansJ_ne (by decide) (by decide) hJ (NewMem.refl _), rfl⟩
  · refine owes_plainG rfl fun dn a W γ hT hdn hdp hJ hf hd => ?_
    obtain ⟨v1, d1, rfl⟩ := hd 1 rfl
    obtain ⟨v2, d2, rfl⟩ := hd 2 rfl
    obtain ⟨v3, d3, rfl⟩ := hd 3 rfl
    refine step_call (w' := W) (f := 19) (args := #[.agg (bc key).toArray, .agg X, .agg V]) (by simp only [execOp]; go_simp) ?_
    have hsc := secret_calls key (HK ()) h pp (HH ()) (HPOK ()) W ((HG.out.below n6).keep (twoT_fr hT) (fun k _ hk => by omega))
    rw [← HX (), ← HV ()] at hsc
    refine hsc.mono ?_
    rintro e w' ⟨rfl, hb⟩
    exact ⟨_, rfl, γ, Fr.new hb, ansJ_ne (by decide) (by decide) hJ hb, by rw [HSEC ()]; rfl⟩
  · refine owes_plainG rfl fun dn a W γ hT hdn hdp hJ hf hd => ?_
    obtain ⟨v0, d0, rfl⟩ := hd 0 rfl
    have e10 := hf 10 rfl
    obtain ⟨hq, hj⟩ := ansJ_five (by omega) hdn hJ
    exact fun K hK => wp_store_row 27 _ _ rfl (w.heap.size + 3) _ ((eval_slot _ 10).trans e10) ((eval_slot _ 39).trans d0) _ _ hq (by rw [HVS ()]; kernel_rfl) (by rw [HVS ()]; rfl) (HV1 ()) (hK undef _ ⟨γ, (Fr.refl _ _).setRow (fun _ => Or.inl rfl) _, hj, trivial⟩)
  · refine owes_plainG rfl fun dn a W γ hT hdn hdp hJ hf hd => ?_
    obtain ⟨v4, d4, rfl⟩ := hd 4 rfl
    have e11 := hf 11 rfl
    obtain ⟨hq, hj⟩ := ansJ_six (by omega) hdn hJ
    exact fun K hK => wp_store_row 31 _ _ rfl (w.heap.size + 4) _ ((eval_slot _ 11).trans e11) ((eval_slot _ 43).trans d4) _ _ hq (by rw [HSL ()]; kernel_rfl) (by rw [HSL ()]; rfl) (bc_all _) (hK undef _ ⟨γ, (Fr.refl _ _).setRow (fun _ => Or.inr rfl) _, hj, trivial⟩)
  · refine owes_plainG rfl fun dn a W γ hT hdn hdp hJ hf hd => ?_
    exact step_val (w' := W) (by simp only [execOp]; go_simp) ⟨γ, twoT_refl _ _ _ _, ansJ_ne (by decide) (by decide) hJ (NewMem.refl _), rfl⟩
  · have hq := hJ.1
    rw [if_pos (by kernel_rfl)] at hq
    exact hq
  · have hq := hJ.2
    rw [if_pos (by kernel_rfl)] at hq
    exact hq
  · rintro vs W γ hT ⟨hb3, hb4, hvs⟩
    have hB : Below w.heap.size w W := below_fr n6 (twoT_fr hT) (Nat.le_refl _) (fun k hk => by omega)
    simp only [laid, Nat.reduceAdd, hvs]
    go_wp2_with fail
    refine bodyPost_ret (run_results3 rfl _ _ (w.heap.size + 3) 27 V _ rfl hb3 Tryd.underlying27 rfl (by rw [HVS ()]; kernel_rfl) (w.heap.size + 4) 31 (bc S).toArray _ rfl hb4 Tryd.underlying31 rfl (by rw [HSL ()]; kernel_rfl)) rfl ?_
    exact ⟨by rw [E1 (), ← HV ()]; rfl, hB⟩
end Go.Proofs.YtbhaekdfpfncnaaDoor
