/- shake.Hello. -/
import Derived.Test.YtbhaekdfpfncnaaDoorPk2
namespace Go.Proofs.YtbhaekdfpfncnaaDoor
set_option linter.unusedVariables false
set_option linter.unusedSimpArgs false
open Go.RowKit

/-- What Hello makes, and its error. -/
def helP (key : List UInt8) (n : Int) (rnd : List UInt8) : PK := if chkB (hPK n rnd Z16) then hPK n rnd (helF key n rnd) else zPK
def helE (n : Int) (rnd : List UInt8) : Int := resN (chkB (hPK n rnd Z16))
theorem helP_ok {key : List UInt8} {n : Int} {rnd : List UInt8} (hn : -9223372036854775808 ≤ n ∧ n ≤ 9223372036854775807) (hr : rnd.length = 16) : (helP key n rnd).ok := by
  unfold helP
  split
  · exact hPK_ok hn hr (helF_length _ _ _)
  · exact zPK_ok
theorem z16_len : Z16.length = 16 := rfl
theorem cells_mid (w : World) (o o2 : Obj) (cs : List Value) (t : TypeId) : ∀ (j : Nat) (v : Value), cs[j]? = some v → (((w.alloc o).alloc (.cells cs.toArray t)).alloc o2).cell? ((⟨w.heap.size + 1, 0, none⟩ : Addr).add j) = some v := fun j v h => by
  have hb : Blk (((w.alloc o).alloc (.cells cs.toArray t)).alloc o2) (w.heap.size + 1) t cs.toArray := (Blk.newAt _ _ (by simp)).alloc _
  obtain ⟨ad, e', _, h'⟩ := rd_blk hb j v h
  cases e'
  exact h'

set_option maxHeartbeats 4000000 in
theorem hello_calls (key : List UInt8) (hk : key.length = 32) (n : Int) (hn : -9223372036854775808 ≤ n ∧ n ≤ 9223372036854775807) (rnd : List UInt8) (hr : rnd.length = 16) (w : World) (hG : Glb w) :
    Calls Tryd.prog 8 #[.agg (bc key).toArray, .int .i64 n, .agg (bc rnd).toArray] w fun e w' => e = .returned (.tuple #[.agg (helP key n rnd).X, .int .i64 (helE n rnd)]) ∧ Below w.heap.size w w' := by
  have HG := Lib.hid hG
  have HK := fun _ : Unit => hk
  have HR := fun _ : Unit => hr
  have HOK := fun _ : Unit => hPK_ok hn hr z16_len
  have HB := fun _ : Unit => built_h n rnd hr
  have hbz := fun (w : World) => run_build (P := Tryd.prog) w 27 #[] zPK.X built_z
  have hpn := peerN_eq n
  have hpl := peerN_lt n
  have hcm := fun (w : World) (o o2 : Obj) => cells_mid w o o2 (bc rnd) 24
  obtain ⟨X, hX⟩ : ∃ X, X = (hPK n rnd Z16).X := ⟨_, rfl⟩
  have HX := fun _ : Unit => hX
  have hXs : X.size = 38 := by rw [hX]; exact PK.size (HOK ())
  have hX1 : X.all (·.oneCell') = true := by rw [hX]; exact PK.one _
  have HXS := fun _ : Unit => hXs
  have HX1 := fun _ : Unit => hX1
  rw [← hX] at HB
  obtain ⟨pp, hpp⟩ : ∃ pp, pp = helP key n rnd := ⟨_, rfl⟩
  obtain ⟨ee, hee⟩ : ∃ ee, ee = helE n rnd := ⟨_, rfl⟩
  rw [← hpp, ← hee]
  have HPP := fun _ : Unit => hpp
  have HEE := fun _ : Unit => hee
  clear hG hk hr hn hX hXs hX1 hpp hee
  go_enter Tryd.func8, Tryd.ntmps8
  go_wp2_with (first | (refine wpList_load_rd rfl 24 _ rfl ⟨w.heap.size + 1, 0, none⟩ rfl (bc rnd) _ (hcm w _ _) Tryd.underlying24 rfl (by rw [bc_length, HR ()]; kernel_rfl) ?_)  | (refine wpList_build_to rfl 27 _ rfl X (HB ()) ?_) | (refine wpList_store_row rfl 27 _ _ rfl (w.heap.size + 3) X rfl rfl _ _ (Blk.newAt _ _ (by simp)) (by rw [HXS ()]; kernel_rfl) (by rw [HXS ()]; rfl) (HX1 ()) ?_) | (refine wpList_load_row rfl 27 _ rfl (w.heap.size + 3) rfl _ X (0, 0) _ ((Blk.newAt _ _ (by simp)).setRow _) Tryd.underlying27 rfl (by rw [HXS ()]; kernel_rfl) ?_))
  generalize hw1 : World.setRow _ _ _ = w1
  have b0 : Hid (Blk w1 w.heap.size 31 (bc key).toArray) := by show Blk _ _ _ _; rw [← hw1]; exact ((((Blk.new _ _ _).alloc _).alloc _).alloc _).setRow_far (by omega) _
  have b1 : Hid (Blk w1 (w.heap.size + 1) 24 (bc rnd).toArray) := by show Blk _ _ _ _; rw [← hw1]; exact (((Blk.newAt _ _ (by simp)).alloc _).alloc _).setRow_far (by omega) _
  have b2 : Hid (Blk w1 (w.heap.size + 2) 27 zPK.X) := by show Blk _ _ _ _; rw [← hw1]; exact ((Blk.newAt _ _ (by simp)).alloc _).setRow_far (by omega) _
  have b3 : Hid (Blk w1 (w.heap.size + 3) 27 X) := by show Blk _ _ _ _; rw [← hw1]; exact Blk.setRow (cs := zPK.X) (Blk.newAt (w := World.alloc (World.alloc (World.alloc w _) _) _) _ zPK.X (by simp)) _
  have n1 : NewMem w w1 := by rw [← hw1]; exact below_setRow_own ((((NewMem.alloc _ _).more _).more _).more _) (by omega) _
  clear hw1 hcm HB
  rw [HX ()]
  refine (check_calls _ (HOK ()) _).mono ?_
  rw [← HX ()]
  rintro e w2 ⟨rfl, hb2⟩
  have b0 := Lib.hid (b0.out.below hb2)
  have b1 := Lib.hid (b1.out.below hb2)
  have b2 := Lib.hid (b2.out.below hb2)
  have b3 := Lib.hid (b3.out.below hb2)
  have n2 : NewMem w w2 := NewMem.trans _ _ _ n1 hb2
  clear n1 hb2
  cases hcb : chkB (hPK n rnd Z16)
  · have e1 : pp = zPK := by rw [HPP ()]; unfold helP; rw [hcb]; rfl
    have e2 : ee = 2 := by rw [HEE ()]; unfold helE; rw [hcb]; rfl
    have E1 := fun _ : Unit => e1
    have E2 := fun _ : Unit => e2
    clear hcb e1 e2
    simp only [resN]
    go_wp2_with (first | (refine wpList_store_row rfl 27 _ _ rfl (w.heap.size + 2) zPK.X rfl rfl _ _ b2.out (by kernel_rfl) rfl (PK.one _) ?_))
    refine bodyPost_ret (run_results2 rfl _ _ (w.heap.size + 2) 27 zPK.X _ rfl (b2.out.setRow _) Tryd.underlying27 rfl (by kernel_rfl)) rfl ?_
    exact ⟨by rw [E1 (), E2 ()]; rfl, below_setRow_own n2 (by omega) _⟩
  obtain ⟨z, hz⟩ : ∃ z, z = helF key n rnd := ⟨_, rfl⟩
  have hzl : z.length = 16 := by rw [hz]; exact helF_length _ _ _
  have HZ := fun _ : Unit => hz
  have HZL := fun _ : Unit => hzl
  have e1 : pp = hPK n rnd z := by rw [HPP (), hz]; unfold helP; rw [hcb]; rfl
  have e2 : ee = 0 := by rw [HEE ()]; unfold helE; rw [hcb]; rfl
  have hmid : midC X 21 (bc z) = pp.X := by rw [e1, HX (), mid_mark (HOK ()) z hzl]; rfl
  have hps : pp.X.size = 38 := by rw [← hmid]; simp [midC, HXS (), hzl]
  have HMID := fun _ : Unit => hmid
  have HPS := fun _ : Unit => hps
  have hp1 : pp.X.all (·.oneCell') = true := PK.one _
  have HP1 := fun _ : Unit => hp1
  obtain ⟨Y, hY⟩ : ∃ Y, Y = pp.X := ⟨_, rfl⟩
  rw [← hY] at HMID HPS HP1
  have E2 := fun _ : Unit => e2
  have HY := fun _ : Unit => hY
  clear hcb e1 e2 hz hzl hmid hps hp1 hY
  simp only [resN]
  go_wp2_with fail
  refine region_sink (T0 := newT) newT_trans newT_refl () 8 (fun W γ W' => W' = W.setRow (w.heap.size + 3) Y) noJ trivial
    [.is (.agg (bc key).toArray), .is (.int .i64 n), .is (.int .u32 (peerN n : Int)), .bytesN (be 4 (peerN n)), .is (.slice (some ⟨w.heap.size + 1, 0, none⟩) 16 16), .listsN [be 4 (peerN n), rnd], .is (.agg (bc z).toArray), .is (.pointer (some ⟨w.heap.size + 3, 21, none⟩))] (by kernel_rfl) (by kernel_rfl) (by kernel_rfl) (by kernel_rfl) ?_ ?_ ?_
  · refine ⟨?_, ?_, ?_, ?_, ?_, ?_, ?_, ?_, trivial⟩
    · refine owes_plainG rfl fun dn a W γ hT hdn hdp hJ hf hd => ?_
      have e3 := hf 3 rfl
      have hb := b0.out.below (newT_nm hT)
      exact step_load_row 31 _ rfl ((eval_slot _ 3).trans e3) hb Tryd.underlying31 rfl (by rw [List.size_toArray, bc_length, HK ()]; kernel_rfl) ⟨γ, newT_refl _ _, trivial, rfl⟩
    · refine owes_plainG rfl fun dn a W γ hT hdn hdp hJ hf hd => ?_
      have e1 := hf 1 rfl
      exact step_val (w' := W) (by simp only [execOp]; go_simp) ⟨γ, newT_refl _ _, trivial, rfl⟩
    · refine owes_plainG rfl fun dn a W γ hT hdn hdp hJ hf hd => ?_
      obtain ⟨v1, d1, rfl⟩ := hd 1 rfl
      have hwr : IntKind.u32.wrap n = (peerN n : Int) := by rw [hpn]; rfl
      exact step_val (w' := W) (by simp only [execOp]; go_simp) ⟨γ, newT_refl _ _, trivial, rfl⟩
    · refine owes_plainG rfl fun dn a W γ hT hdn hdp hJ hf hd => ?_
      obtain ⟨v2, d2, rfl⟩ := hd 2 rfl
      refine step_call (w' := W) (f := 24) (args := #[.int .u32 (peerN n : Int)]) (by simp only [execOp]; go_simp) ((high32_calls _ W hpl).mono ?_)
      rintro e w' ⟨rfl, hb, hn⟩
      exact ⟨_, rfl, γ, hn, trivial, _, _, by rw [be_length], (rd_blk hb).mono fun _ _ _ => trivial, by rw [be_length]; exact Nat.le_refl _⟩
    · refine owes_plainG rfl fun dn a W γ hT hdn hdp hJ hf hd => ?_
      have e5 := hf 5 rfl
      exact step_val (w' := W) (by simp only [execOp]; go_simp) ⟨γ, newT_refl _ _, trivial, rfl⟩
    · refine owes_plainG rfl fun dn a W γ hT hdn hdp hJ hf hd => ?_
      obtain ⟨v3, d3, A3, c3, rfl, r3, k3⟩ := hd 3 rfl
      obtain ⟨v4, d4, rfl⟩ := hd 4 rfl
      have hb1 := b1.out.below (newT_nm hT)
      refine step_val (w' := W.alloc (.cells #[.slice A3 (be 4 (peerN n)).length c3, .slice (some ⟨w.heap.size + 1, 0, none⟩) 16 16] 25)) (v := .slice (some ⟨W.heap.size, 0, none⟩) 2 2) (by simp only [execOp]; go_simp) ⟨γ, NewMem.alloc _ _, trivial, _, _, rfl, ?_, Nat.le_refl _⟩
      exact (rdl_two_eq (F := fun _ => True) 25 (r3.mono fun _ _ _ => trivial) k3 ((rd_blk hb1).mono fun _ _ _ => trivial) (by rw [HR ()]; exact Nat.le_refl _) rfl rfl (HR ()).symm)
    · refine owes_plainG rfl fun dn a W γ hT hdn hdp hJ hf hd => ?_
      obtain ⟨v0, d0, rfl⟩ := hd 0 rfl
      obtain ⟨v5, d5, A5, c5, rfl, r5, k5⟩ := hd 5 rfl
      refine step_call (w' := W) (f := 17) (args := #[.agg (bc key).toArray, .string tHel, .slice A5 2 c5]) (by simp only [execOp]; go_simp; rfl) ?_
      refine (smark_calls key (HK ()) tHel (by decide) A5 [be 4 (peerN n), rnd] c5 W (fun _ => True) r5 k5 ((HG.out.below n2).below (newT_nm hT)) (by simp [be_length, HR ()]) (by simp)).mono ?_
      rintro e w' ⟨rfl, hb⟩
      exact ⟨_, rfl, γ, hb, trivial, by rw [HZ ()]; show _ = Value.agg (bc (helF key n rnd)).toArray; unfold helF; rw [show [be 4 (peerN n), rnd].flatten = be 4 (peerN n) ++ rnd from by simp]⟩
    · refine owes_plainG rfl fun dn a W γ hT hdn hdp hJ hf hd => ?_
      have e8 := hf 8 rfl
      exact step_val (w' := W) (by simp only [execOp]; go_simp) ⟨γ, newT_refl _ _, trivial, rfl⟩
  · intro o a W γ ho hT hf hs
    obtain ⟨v6, d6, rfl⟩ := hs 6 (by omega)
    obtain ⟨v7, d7, rfl⟩ := hs 7 (by omega)
    have HZS : (bc z).length = 16 := by rw [bc_length, HZL ()]
    obtain ⟨o', ho', hop⟩ : ∃ o', o = o' ∧ o'.op = .store 24 (.tmp 26) (.tmp 25) := ⟨_, Option.some.inj (ho.symm.trans rfl), rfl⟩
    subst ho'
    exact fun K hK => wp_store_at 24 _ _ hop (w.heap.size + 3) 21 (bc z) ((eval_slot _ 26).trans d7) ((eval_slot _ 25).trans d6) _ _ (b3.out.below (newT_nm hT)) (by rw [HZS, HXS ()]; decide) (bc_one z) (by rw [HZS]; kernel_rfl) (hK undef _ (by show _ = _; rw [HMID ()]))
  · rintro vs W γ W' hT hp rfl
    have hN : NewMem w W := NewMem.trans _ _ _ n2 (newT_nm hT)
    have b3 : Hid (Blk (W.setRow (w.heap.size + 3) Y) (w.heap.size + 3) 27 Y) := Lib.hid ((b3.out.below (newT_nm hT)).setRow _)
    have b2 : Hid (Blk (W.setRow (w.heap.size + 3) Y) (w.heap.size + 2) 27 zPK.X) := Lib.hid ((b2.out.below (newT_nm hT)).setRow_far (by omega) _)
    have n3 : NewMem w (W.setRow (w.heap.size + 3) Y) := below_setRow_own hN (by omega) _
    generalize W.setRow (w.heap.size + 3) Y = w3 at *
    clear hp hT hN
    simp only [laid, Nat.reduceAdd]
    go_wp2_with (first | (refine wpList_load_row rfl 27 _ rfl (w.heap.size + 3) rfl _ Y (0, 0) _ b3.out Tryd.underlying27 rfl (by rw [HPS ()]; kernel_rfl) ?_) | (refine wpList_store_row rfl 27 _ _ rfl (w.heap.size + 2) Y rfl rfl _ _ b2.out (by rw [HPS ()]; kernel_rfl) (by rw [HPS ()]; rfl) (HP1 ()) ?_))
    refine bodyPost_ret (run_results2 rfl _ _ (w.heap.size + 2) 27 Y _ rfl (b2.out.setRow _) Tryd.underlying27 rfl (by rw [HPS ()]; kernel_rfl)) rfl ?_
    exact ⟨by rw [E2 (), ← HY ()]; rfl, below_setRow_own n3 (by omega) _⟩
end Go.Proofs.YtbhaekdfpfncnaaDoor
