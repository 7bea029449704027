/- drawbridgeref05.Extract, drawbridgeref05.Expand at 32 bytes, drawbridgeref05.Key. -/
import Derived.Test.YtbhaekdfpfncnaaDoorR5D
import Derived.Test.YtbhaekdfpfncnaaDoorHkF
import Derived.Deep.DeepMust
namespace Go.Proofs.YtbhaekdfpfncnaaDoor
set_option linter.unusedVariables false
set_option linter.unusedSimpArgs false
open Go.RowKit

set_option maxHeartbeats 1000000 in
theorem rext_calls (A : Option Addr) (k : List UInt8) (c : Nat) (A2 : Option Addr) (s : List UInt8) (c2 : Nat) (w : World) (F : Nat → Prop) (hk : Rd w F A (bc k)) (hkc : k.length ≤ c) (hs : Rd w F A2 (bc s)) (hsc : s.length ≤ c2) (hG : Glb w) (hkl : k.length ≤ 1099511627776) (hl : s.length ≤ 549755813888) :
    Calls Tryd.prog 44 #[.slice A k.length c, .slice A2 s.length c2] w fun e w' => e = .returned (.agg (bc (mac k s)).toArray) ∧ Below w.heap.size w w' := by
  have HK := Lib.hid hk
  have HS := Lib.hid hs
  have HG := Lib.hid hG
  clear hk hs hG
  go_enter Tryd.func44, Tryd.ntmps44
  go_wp2_with fail
  generalize hw1 : World.alloc w (Obj.cells _ 31) = w1
  have hs1 : w.heap.size + 1 = w1.heap.size := by rw [← hw1]; simp
  have b1 : Blk w1 w.heap.size 31 (bc (List.replicate 32 0)).toArray := by
    rw [← hw1, z32]
    exact Blk.new _ _ _
  have n1 : NewMem w w1 := by rw [← hw1]; exact NewMem.alloc _ _
  have B1 := Lib.hid b1
  have HS1 := fun _ : Unit => hs1
  clear hw1 b1 hs1
  refine (rmac_calls A k c (some ⟨w.heap.size + 1, 0, none⟩) [s] 1 _ (fun _ => True) (((HK.out.below n1).alloc _).mono fun _ _ _ => trivial) hkc ((rdl_one _ (HS.out.below n1) hsc (HS1 ())).mono fun _ _ _ => trivial) ((HG.out.below n1).alloc _) hkl (by simpa using hl) (by simp)).mono ?_
  rintro e w2 ⟨rfl, hb2⟩
  rw [show [s].flatten = s from by simp]
  have HML := fun _ : Unit => bc_asize (mac k s)
  have hb : Below w.heap.size w w2 := below_then (n1.more _) hb2 (Nat.le_refl _)
  have B2 := Lib.hid ((B1.out.alloc _).below hb2)
  go_wp2_with (refine wpList_store_row rfl 31 _ _ rfl w.heap.size (bc (mac k s)).toArray rfl rfl 31 _ B2.out (by rw [HML (), mac_length]; kernel_rfl) (by rw [HML (), mac_length]; rfl) (bc_all _) ?_)
  refine bodyPost_ret (results_cell_row rfl _ _ w.heap.size 31 (bc (mac k s)).toArray (0, 0) _ rfl (B2.out.setRow _) Tryd.underlying31 rfl (by rw [HML (), mac_length]; kernel_rfl)) rfl ?_
  exact ⟨rfl, below_setRow_own hb (Nat.le_refl _) _⟩

set_option maxHeartbeats 2000000 in
theorem rexp_calls (k : List UInt8) (hk : k.length = 32) (A : Option Addr) (s : List UInt8) (c : Nat) (w : World) (F : Nat → Prop) (hs : Rd w F A (bc s)) (hsc : s.length ≤ c) (hG : Glb w) (hl : s.length ≤ 274877906944) :
    Calls Tryd.prog 43 #[.agg (bc k).toArray, .slice A s.length c, .int .i64 32] w fun e w' => ∃ A' c', e = .returned (.tuple #[.slice A' 32 c', .int .i64 0]) ∧ Rd w' (fun k => w.heap.size ≤ k) A' (bc (mac k (s ++ [1]))) ∧ 32 ≤ c' ∧ Below w.heap.size w w' := by
  have HS := Lib.hid hs
  have HG := Lib.hid hG
  have HK := fun _ : Unit => hk
  obtain ⟨i0, hi0, hq0, hq1, hq2⟩ := info_parts info_u8
  clear hs hG hk
  go_enter Tryd.func43, Tryd.ntmps43
  go_wp2_with fail
  generalize hw0 : World.alloc w _ = w0
  have z0 : Hid (Blk w0 w.heap.size 31 (bc k).toArray) := by
    show Blk _ _ _ _
    rw [← hw0]
    exact Blk.new _ _ _
  have z2 : NewMem w w0 := by
    rw [← hw0]
    exact NewMem.alloc _ _
  clear hw0
  go_loopw [8, 9, 10] (fun o l i wr => (o = .slice none 0 0 ∧ l = .slice none 0 0 ∧ i = .int .i64 1 ∧ wr = w0) ∨ (∃ A' c', o = .slice A' 32 c' ∧ 32 ≤ c' ∧ Hid (Rd wr (fun k => w.heap.size ≤ k) A' (bc (mac k (s ++ [1])))) ∧ Hid (NewMem w wr))) (fun o _ _ _ => 64 - (match o with | .slice _ n _ => n | _ => 0))
  case atStart => exact Or.inl ⟨rfl, rfl, rfl, rfl⟩
  case round =>
    rcases hrel with ⟨rfl, rfl, rfl, rfl⟩ | ⟨A', c', rfl, hc', hR, hN⟩
    · go_wp2_with fail
      generalize hw1 : World.alloc wr _ = w1
      have hs1 : wr.heap.size + 1 = w1.heap.size := by rw [← hw1]; simp
      have n1 : NewMem w w1 := by rw [← hw1]; exact z2.more _
      have r1 : Hid (Rd w1 (fun _ => True) (some ⟨wr.heap.size, 0, none⟩) (bc [1])) := by
        show Rd _ _ _ _
        rw [← hw1]
        exact (rd_one _ _ _).mono fun _ _ _ => trivial
      have b1 : Hid (Blk w1 w.heap.size 31 (bc k).toArray) := by
        show Blk _ _ _ _
        rw [← hw1]
        exact z0.out.alloc _
      have HS1 := fun _ : Unit => hs1
      clear hw1 hs1 z0 z2
      rw [show (32 : Nat) = k.length from (HK ()).symm]
      refine (rmac_calls (some ⟨w.heap.size, 0, none⟩) k k.length (some ⟨wr.heap.size + 1, 0, none⟩) [[], s, [1]] 3 _ (fun _ => True) (((rd_blk b1.out).alloc _).mono fun _ _ _ => trivial) (Nat.le_refl _)
        (rdl_three_eq _ (Rd.nil _ (fun _ => True) _) (Nat.le_refl _) ((HS.out.below n1).mono fun _ _ _ => trivial) hsc r1.out (Nat.le_refl _) (HS1 ()) rfl rfl rfl) ((HG.out.below n1).alloc _) (by rw [HK ()]; omega) (by simp; omega) (by simp)).mono ?_
      rintro e w2 ⟨rfl, hb2⟩
      rw [show [[], s, [1]].flatten = s ++ [1] from by simp]
      have n2 : NewMem w w2 := below_then (n1.more _) hb2 (Nat.le_refl _)
      have hml := mac_length k (s ++ [1])
      generalize hz : mac k (s ++ [1]) = z at *
      have HZ := fun _ : Unit => hz
      have hzs : (bc z).toArray.size = 32 := by simp [hml]
      have HZS := fun _ : Unit => hzs
      have HZL := fun _ : Unit => hml
      clear hzs hml hb2 r1 b1 n1 hz
      have hnew : Blk (w2.alloc (.cells (bc (List.replicate 32 0)).toArray 31)) w2.heap.size 31 (bc (List.replicate 32 0)).toArray := Blk.new _ _ _
      rw [z32] at hnew
      have HNEW := Lib.hid hnew
      clear hnew
      go_wp2_with (first | ((refine wpList_store_row rfl 31 _ _ rfl w2.heap.size (bc z).toArray rfl rfl 31 _ HNEW.out (by rw [HZS ()]; kernel_rfl) (by rw [HZS ()]; rfl) (bc_all _) ?_); (generalize hw3 : World.setRow (World.alloc w2 _) _ _ = w3); (have b3 : NewMem w2 w3 := by rw [← hw3]; exact below_setRow_own ((Below.refl _ _).alloc (Nat.le_refl _) _) (Nat.le_refl _) _); (have n3 : NewMem w w3 := below_then n2 b3 (Nat.le_refl _)); (have s3 : w3.heap.size = w2.heap.size + 1 := by rw [← hw3]; simp); (have r3 : Hid (Rd w3 (fun k => k = w2.heap.size) (some ⟨w2.heap.size, 0, none⟩) (bc z)) := by show Rd _ _ _ _; rw [← hw3]; exact rd_blk (HNEW.out.setRow _)); (have S3 := fun _ : Unit => s3); clear hw3 b3 HNEW s3) | (at_builtin; (refine wpList_append_rd _ rfl (.tmp 28) (.tmp 29) _ rfl w.heap.size 5 i0 _ 1 Tryd.underlying25 hi0 hq0 hq1 hq2 rfl (.slice (some ⟨w3.heap.size, 0, none⟩) 0 0) 0 [] rfl (World.ownsRow_lit w3 #[] 0 n3.size (by decide) rfl) _ (some ⟨w2.heap.size, 0, none⟩) 32 32 (bc z) rfl (by rw [bc_length, HZL ()]) (r3.out.alloc _) (bc_one z) (by rw [bc_length, HZL ()]; decide) (by rw [bc_length, HZL ()]; decide) (n3.more _).size ?_); intro v4 w4 hown4 hg4 hat4; have HG4 := Lib.hid hg4; have HOWN4 := Lib.hid hown4; clear hg4 hown4 hat4; obtain ⟨A4, c4, rfl, hc4⟩ := own_shape HOWN4.out; (have n4 : NewMem w w4 := (n3.more _).grown HG4.out (n3.more _).size (fun k hk => ((World.ownsRow_lit (base := w.heap.size) (e := 5) (size := 1) w3 #[] 0 n3.size (by decide) rfl).lt k hk).1)); (have r4 := Lib.hid (Rd.of_own HOWN4.out (by omega))); clear hc4 HG4 HOWN4) | (at_builtin; (refine wpList_append_rd _ rfl (.tmp 31) (.tmp 32) _ rfl w.heap.size 5 i0 _ 1 Tryd.underlying25 hi0 hq0 hq1 hq2 rfl (.slice none 0 0) 0 [] rfl (World.ownsRow_nil _ _ _ _) _ A4 z.length c4 (bc z) rfl (by rw [bc_length]) r4.out (bc_one z) (by rw [bc_length, HZL ()]; decide) (by rw [bc_length, HZL ()]; decide) n4.size ?_); intro v5 w5 hown5 hg5 hat5; have HG5 := Lib.hid hg5; have HOWN5 := Lib.hid hown5; clear hg5 hown5 hat5; obtain ⟨A5, c5, rfl, hc5⟩ := own_shape HOWN5.out; have HC5 := Lib.hid hc5; clear hc5))
      go_roundw
      case rel =>
        have hr := Rd.of_own HOWN5.out (by omega)
        have hc5 := HC5.out.1
        rw [bc_length, HZL ()] at hc5
        refine Or.inr ⟨A5, c5, by rw [HZL ()], by omega, ?_, n4.grown HG5.out n4.size fun k hk => by cases hk⟩
        rw [HZ ()]
        exact hr.mono fun k _ h => h.1
      case measure => rw [HZL ()]; show 64 - 32 < 64 - 0; omega
    · clear z0
      go_wp2
      go_ret2
      exact ⟨A', c', rfl, hR.out, hc', hN.out⟩

set_option maxHeartbeats 1000000 in
theorem rkey_calls (A : Option Addr) (k : List UInt8) (c : Nat) (A2 : Option Addr) (s : List UInt8) (c2 : Nat) (A3 : Option Addr) (m : List UInt8) (c3 : Nat) (w : World) (F : Nat → Prop) (hk : Rd w F A (bc k)) (hkc : k.length ≤ c) (hs : Rd w F A2 (bc s)) (hsc : s.length ≤ c2) (hm : Rd w F A3 (bc m)) (hmc : m.length ≤ c3) (hG : Glb w)
    (hkl : k.length ≤ 274877906944) (hsl : s.length ≤ 274877906944) (hml : m.length ≤ 274877906944) :
    Calls Tryd.prog 32 #[.slice A k.length c, .slice A2 s.length c2, .slice A3 m.length c3] w fun e w' => e = .returned (.agg (bc (hkey k s m)).toArray) ∧ Below w.heap.size w w' := by
  have HK := Lib.hid hk
  have HS := Lib.hid hs
  have HM := Lib.hid hm
  have HG := Lib.hid hG
  clear hk hs hm hG
  go_enter Tryd.func32, Tryd.ntmps32
  go_wp2_with fail
  generalize hw1 : World.alloc w (Obj.cells _ 31) = w1
  have b1 : Hid (Blk w1 w.heap.size 31 (bc (List.replicate 32 0)).toArray) := by
    show Blk _ _ _ _
    rw [← hw1, z32]
    exact Blk.new _ _ _
  have n1 : NewMem w w1 := by rw [← hw1]; exact NewMem.alloc _ _
  clear hw1
  refine (rext_calls A k c A2 s c2 _ F (HK.out.below n1) hkc (HS.out.below n1) hsc (HG.out.below n1) (by omega) (by omega)).mono ?_
  rintro e w2 ⟨rfl, hb2⟩
  have n2 : NewMem w w2 := below_then n1 hb2 (Nat.le_refl _)
  have b2 := Lib.hid (b1.out.below hb2)
  clear hb2 b1 n1
  go_wp2_with fail
  refine (rexp_calls (mac k s) (mac_length k s) A3 m c3 _ F (HM.out.below n2) hmc (HG.out.below n2) hml).mono ?_
  rintro e w3 ⟨A', c', rfl, hr3, hc3, hb3⟩
  have n3 : NewMem w w3 := below_then n2 hb3 (Nat.le_refl _)
  have b3 := Lib.hid (b2.out.below hb3)
  clear hb3 b2 n2
  rw [show mac (mac k s) (m ++ [1]) = hkey k s m from rfl] at hr3
  have hzl := hkey_length k s m
  generalize hz : hkey k s m = z at *
  have HZ := fun _ : Unit => hz
  clear hz
  have HR3 := Lib.hid (hr3.mono (F' := fun _ => True) fun _ _ _ => trivial)
  have hzs : (bc z).toArray.size = 32 := by simp [hzl]
  have HZS := fun _ : Unit => hzs
  have HZL := fun _ : Unit => hzl
  have hlt3 := b3.out.lt
  have e6 : bc z ++ (bc (List.replicate 32 0)).drop z.length = bc z := by rw [← bc_drop, List.drop_replicate, hzl]; simp
  have E6 := fun _ : Unit => e6
  rw [show (32 : Nat) = z.length from hzl.symm]
  clear hr3 hzs hzl e6
  go_wp2_with (first | ((with_reducible refine at_slot 20 ?_); go_must ((generalize hw4 : World.alloc w3 _ = w4); (have c4 : Hid (Blk w4 w3.heap.size 31 (bc (List.replicate 32 0)).toArray) := by show Blk _ _ _ _; rw [← hw4, z32]; exact Blk.new _ _ _); (have n4 : NewMem w3 w4 := by rw [← hw4]; exact NewMem.alloc _ _); (have b4 := Lib.hid (b3.out.below n4)); (have HR4 := Lib.hid (HR3.out.below n4)); (have n5 : NewMem w w4 := below_then n3 n4 (Nat.le_refl _)); clear hw4; (with_reducible refine wpList_copy_rd (o := ⟨some 20, _, _, _, _, _⟩) rfl _ _ _ _ rfl 5 Tryd.underlying25 (by kernel_rfl) w3.heap.size 32 32 A' c' z rfl rfl (bc (List.replicate 32 0)) _ c4.out _ HR4.out (by rw [HZL ()]; omega) (by simp) ?_); intro w6 hc6 hf6; rw [E6 ()] at hc6; have C6 := Lib.hid hc6; (have b6 := Lib.hid (b4.out.keep hf6 (by omega))); (have n6 : NewMem w w6 := below_fr n5 hf6 (Nat.le_refl _) fun k h1 h2 => by omega); clear hc6 hf6 b4 c4 n4 n5)) | (refine wpList_load_row rfl 31 _ rfl w3.heap.size rfl 31 (bc z).toArray (0, 0) _ C6.out Tryd.underlying31 rfl (by rw [HZS ()]; kernel_rfl) ?_) | (refine wpList_store_row rfl 31 _ _ rfl w.heap.size (bc z).toArray rfl rfl 31 _ b6.out (by rw [HZS ()]; kernel_rfl) (by rw [HZS ()]; rfl) (bc_all _) ?_))
  refine bodyPost_ret (results_cell_row rfl _ _ w.heap.size 31 (bc z).toArray (0, 0) _ rfl (b6.out.setRow _) Tryd.underlying31 rfl (by rw [HZS ()]; kernel_rfl)) rfl ?_
  exact ⟨by rw [HZ ()], below_setRow_own n6 (Nat.le_refl _) _⟩
end Go.Proofs.YtbhaekdfpfncnaaDoor
