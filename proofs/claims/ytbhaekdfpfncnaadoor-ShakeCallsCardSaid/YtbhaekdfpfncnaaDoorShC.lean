/- shake.mark. -/
import Derived.Test.YtbhaekdfpfncnaaDoorShB
import Derived.Test.YtbhaekdfpfncnaaDoorPkD
namespace Go.Proofs.YtbhaekdfpfncnaaDoor
set_option linter.unusedVariables false
set_option linter.unusedSimpArgs false
open Go.RowKit

theorem newT_nm {w W : World} {γ γ' : Unit} (h : newT w.drew γ W γ') : NewMem w W := NewMem.undrew h
theorem rdl_mk {w : World} (t : TypeId) (vs : Array Value) (ls : List (List UInt8)) (hl : vs.size = ls.length)
    (h : ∀ (i : Nat) (l : List UInt8), ls[i]? = some l → ∃ F a c, vs[i]? = some (Value.slice a l.length c) ∧ Rd w F a (bc l) ∧ l.length ≤ c) :
    RdL (w.alloc (.cells vs t)) (fun _ => True) (some ⟨w.heap.size, 0, none⟩) ls :=
  ⟨vs.toList, by simpa using hl, (rd_lit w vs t (0, 0)).mono fun _ _ _ => trivial, fun i l hi => by
    obtain ⟨F, a, c, e, hr, hc⟩ := h i l hi
    exact ⟨a, c, by simpa using e, (hr.alloc _).mono fun _ _ _ => trivial, hc⟩⟩
theorem rdl_five {w : World} {F1 F2 F3 F4 F5 : Nat → Prop} {a1 a2 a3 a4 a5 : Option Addr} {l1 l2 l3 l4 l5 : List UInt8} {c1 c2 c3 c4 c5 n1 n2 n3 n4 n5 : Nat} (t : TypeId) (h1 : Rd w F1 a1 (bc l1)) (k1 : l1.length ≤ c1) (h2 : Rd w F2 a2 (bc l2)) (k2 : l2.length ≤ c2) (h3 : Rd w F3 a3 (bc l3)) (k3 : l3.length ≤ c3) (h4 : Rd w F4 a4 (bc l4)) (k4 : l4.length ≤ c4) (h5 : Rd w F5 a5 (bc l5)) (k5 : l5.length ≤ c5)
    (m1 : n1 = l1.length) (m2 : n2 = l2.length) (m3 : n3 = l3.length) (m4 : n4 = l4.length) (m5 : n5 = l5.length) :
    RdL (w.alloc (.cells #[.slice a1 n1 c1, .slice a2 n2 c2, .slice a3 n3 c3, .slice a4 n4 c4, .slice a5 n5 c5] t)) (fun _ => True) (some ⟨w.heap.size, 0, none⟩) [l1, l2, l3, l4, l5] := by
  subst m1 m2 m3 m4 m5
  refine rdl_mk t _ _ rfl fun i l hi => ?_
  match i, hi with
  | 0, h => simp at h; subst h; exact ⟨F1, a1, c1, rfl, h1, k1⟩
  | 1, h => simp at h; subst h; exact ⟨F2, a2, c2, rfl, h2, k2⟩
  | 2, h => simp at h; subst h; exact ⟨F3, a3, c3, rfl, h3, k3⟩
  | 3, h => simp at h; subst h; exact ⟨F4, a4, c4, rfl, h4, k4⟩
  | 4, h => simp at h; subst h; exact ⟨F5, a5, c5, rfl, h5, k5⟩
  | i + 5, h => simp at h
theorem step_load_row {P : Program} {Q : Exit → Act → World → Prop} {o : Oper} {a : Act} {w : World} {Φ : Value → World → Prop} (ty : TypeId) (x : Operand) (ho : o.op = .load ty x) {g : Nat} (hx : a.eval x = .pointer (some ⟨g, 0, none⟩)) {t : TypeId} {cs : Array Value} (hg : Blk w g t cs) {d : TypeDesc}
    (hu : P.underlying ty = some d) (hd : (match d with | .struct _ | .array _ _ => true | _ => false) = true) (hi : (P.info? ty).map (·.size) = some cs.size) (hΦ : Φ (.agg cs) w) : StepOp P Q o a w Φ :=
  fun K hK => wp_load_row ty x ho g hx t cs (0, 0) d hg hu hd hi (hK _ _ hΦ)
theorem step_load_at {P : Program} {Q : Exit → Act → World → Prop} {o : Oper} {a : Act} {w : World} {Φ : Value → World → Prop} (ty : TypeId) (x : Operand) (ho : o.op = .load ty x) {ad : Addr} (hx : a.eval x = .pointer (some ad)) {F : Nat → Prop} {xs : List Value} (hr : Rd w F (some ad) xs) {d : TypeDesc}
    (hu : P.underlying ty = some d) (hd : (match d with | .struct _ | .array _ _ => true | _ => false) = true) (hi : (P.info? ty).map (·.size) = some xs.length) (hΦ : Φ (.agg xs.toArray) w) : StepOp P Q o a w Φ :=
  fun K hK => by
    unfold Oper.wp execOp
    simp only [ho, hx, Instr.loadAt, Instr.sureAddr, Sem.run_bind, Sem.run_pure, Result.andThen_ok, run_loadVar_rd w ad ty xs d (fun j v h => by
      obtain ⟨ad', e', _, h'⟩ := hr j v h
      cases e'
      exact h') hu hd hi]
    exact hK _ _ hΦ
/-- The words that the marks hold. -/
def tAns : ByteArray := ⟨#[97, 110, 115, 119, 101, 114]⟩
def tHel : ByteArray := ⟨#[104, 101, 108, 108, 111]⟩
/-- A peer's number as it is marked. -/
def peerN (n : Int) : Nat := (n % 4294967296).toNat
theorem peerN_eq (n : Int) : (peerN n : Int) = n % 4294967296 := by unfold peerN; omega
theorem peerN_lt (n : Int) : peerN n < 4294967296 := by unfold peerN; omega
def ansF (key : List UInt8) (h a : PK) : List UInt8 := markF key tAns.data.toList (be 4 (peerN h.peer) ++ (h.rnd ++ (be 8 a.ses ++ (be 4 a.ep ++ a.rnd))))
theorem ansF_length (key : List UInt8) (h a : PK) : (ansF key h a).length = 16 := markF_length _ _ _

set_option maxHeartbeats 4000000 in
theorem amark_calls (key : List UInt8) (hk : key.length = 32) (h p : PK) (hh : h.ok) (hp : p.ok) (w : World) (hG : Glb w) :
    Calls Tryd.prog 25 #[.agg (bc key).toArray, .agg h.X, .agg p.X] w fun e w' => e = .returned (.agg (bc (ansF key h p)).toArray) ∧ Below w.heap.size w w' := by
  have HG := Lib.hid hG
  have HK := fun _ : Unit => hk
  have h1 := h.x1
  have p2 := p.x2
  have p3 := p.x3
  have hxr := fun _ : Unit => PK.xr hh
  have pxr := fun _ : Unit => PK.xr hp
  have hrl := fun _ : Unit => hh.rnd
  have prl := fun _ : Unit => hp.rnd
  have hsl := hp.ses
  have hel := hp.ep
  obtain ⟨z, hz⟩ : ∃ z, z = ansF key h p := ⟨_, rfl⟩
  have hzl : z.length = 16 := by rw [hz]; exact ansF_length _ _ _
  have HZ := fun _ : Unit => hz
  have HZL := fun _ : Unit => hzl
  have hpn := peerN_eq h.peer
  have hpl := peerN_lt h.peer
  obtain ⟨X, hX⟩ : ∃ X, X = h.X := ⟨_, rfl⟩
  obtain ⟨Y, hY⟩ : ∃ Y, Y = p.X := ⟨_, rfl⟩
  rw [← hX] at h1 hxr ⊢
  rw [← hY] at p2 p3 pxr ⊢
  clear hG hk hz hzl hh hp hX hY
  go_enter Tryd.func25, Tryd.ntmps25
  go_wp2_with fail
  generalize hw1 : World.alloc (World.alloc (World.alloc (World.alloc w _) _) _) _ = w1
  have b0 : Hid (Blk w1 w.heap.size 31 (bc key).toArray) := by show Blk _ _ _ _; rw [← hw1]; exact (((Blk.new _ _ _).alloc _).alloc _).alloc _
  have b1 : Hid (Blk w1 (w.heap.size + 1) 27 X) := by show Blk _ _ _ _; rw [← hw1]; exact ((Blk.newAt _ _ (by simp)).alloc _).alloc _
  have b2 : Hid (Blk w1 (w.heap.size + 2) 27 Y) := by show Blk _ _ _ _; rw [← hw1]; exact (Blk.newAt _ _ (by simp)).alloc _
  have b3 : Hid (Blk w1 (w.heap.size + 3) 24 (bc (List.replicate 16 0)).toArray) := by show Blk _ _ _ _; rw [← hw1, z16]; exact Blk.newAt _ _ (by simp)
  have n1 : NewMem w w1 := by rw [← hw1]; exact (((NewMem.alloc _ _).more _).more _).more _
  clear hw1
  refine region_sink (T0 := newT) newT_trans newT_refl () 17 (fun W γ W' => W' = W.setRow (w.heap.size + 3) (bc z).toArray) noJ trivial
    [.is (.agg (bc key).toArray), .is (.pointer (some ⟨w.heap.size + 1, 1, none⟩)), .is (.int .i64 h.peer), .is (.int .u32 (peerN h.peer : Int)), .bytesN (be 4 (peerN h.peer)), .is (.pointer (some ⟨w.heap.size + 1, 5, none⟩)), .is (.slice (some ⟨w.heap.size + 1, 5, none⟩) 16 16), .is (.pointer (some ⟨w.heap.size + 2, 2, none⟩)), .is (.int .u64 (p.ses : Int)), .bytesN (be 8 p.ses), .is (.pointer (some ⟨w.heap.size + 2, 3, none⟩)), .is (.int .u32 (p.ep : Int)), .bytesN (be 4 p.ep), .is (.pointer (some ⟨w.heap.size + 2, 5, none⟩)), .is (.slice (some ⟨w.heap.size + 2, 5, none⟩) 16 16), .listsN [be 4 (peerN h.peer), h.rnd, be 8 p.ses, be 4 p.ep, p.rnd], .is (.agg (bc z).toArray)] (by kernel_rfl) (by kernel_rfl) (by kernel_rfl) (by kernel_rfl) ?_ ?_ ?_
  · refine ⟨?_, ?_, ?_, ?_, ?_, ?_, ?_, ?_, ?_, ?_, ?_, ?_, ?_, ?_, ?_, ?_, ?_, trivial⟩
    · refine owes_plainG rfl fun dn a W γ hT hdn hdp hJ hf hd => ?_
      have e3 := hf 3 rfl
      have hb := b0.out.below (newT_nm hT)
      exact step_load_row 31 _ rfl ((eval_slot _ 3).trans e3) hb Tryd.underlying31 rfl (by rw [List.size_toArray, bc_length, HK ()]; kernel_rfl) ⟨γ, newT_refl _ _, trivial, rfl⟩
    · refine owes_plainG rfl fun dn a W γ hT hdn hdp hJ hf hd => ?_
      have e4 := hf 4 rfl
      exact step_val (w' := W) (by simp only [execOp]; go_simp) ⟨γ, newT_refl _ _, trivial, rfl⟩
    · refine owes_plainG rfl fun dn a W γ hT hdn hdp hJ hf hd => ?_
      obtain ⟨v1, d1, rfl⟩ := hd 1 rfl
      have hc := ((b1.out.below (newT_nm hT)).cell 1).trans h1
      exact step_val (w' := W) (by simp only [execOp]; go_simp) ⟨γ, newT_refl _ _, trivial, rfl⟩
    · refine owes_plainG rfl fun dn a W γ hT hdn hdp hJ hf hd => ?_
      obtain ⟨v2, d2, rfl⟩ := hd 2 rfl
      have hwr : IntKind.u32.wrap h.peer = (peerN h.peer : Int) := by rw [hpn]; rfl
      exact step_val (w' := W) (by simp only [execOp]; go_simp) ⟨γ, newT_refl _ _, trivial, rfl⟩
    · refine owes_plainG rfl fun dn a W γ hT hdn hdp hJ hf hd => ?_
      obtain ⟨v3, d3, rfl⟩ := hd 3 rfl
      refine step_call (w' := W) (f := 24) (args := #[.int .u32 (peerN h.peer : Int)]) (by simp only [execOp]; go_simp) ((high32_calls _ W hpl).mono ?_)
      rintro e w' ⟨rfl, hb, hn⟩
      exact ⟨_, rfl, γ, hn, trivial, _, _, by rw [be_length], (rd_blk hb).mono fun _ _ _ => trivial, by rw [be_length]; exact Nat.le_refl _⟩
    · refine owes_plainG rfl fun dn a W γ hT hdn hdp hJ hf hd => ?_
      have e4 := hf 4 rfl
      exact step_val (w' := W) (by simp only [execOp]; go_simp) ⟨γ, newT_refl _ _, trivial, rfl⟩
    · refine owes_plainG rfl fun dn a W γ hT hdn hdp hJ hf hd => ?_
      obtain ⟨v5, d5, rfl⟩ := hd 5 rfl
      exact step_val (w' := W) (by simp only [execOp]; go_simp) ⟨γ, newT_refl _ _, trivial, rfl⟩
    · refine owes_plainG rfl fun dn a W γ hT hdn hdp hJ hf hd => ?_
      have e5 := hf 5 rfl
      exact step_val (w' := W) (by simp only [execOp]; go_simp) ⟨γ, newT_refl _ _, trivial, rfl⟩
    · refine owes_plainG rfl fun dn a W γ hT hdn hdp hJ hf hd => ?_
      obtain ⟨v7, d7, rfl⟩ := hd 7 rfl
      have hc := ((b2.out.below (newT_nm hT)).cell 2).trans p2
      exact step_val (w' := W) (by simp only [execOp]; go_simp) ⟨γ, newT_refl _ _, trivial, rfl⟩
    · refine owes_plainG rfl fun dn a W γ hT hdn hdp hJ hf hd => ?_
      obtain ⟨v8, d8, rfl⟩ := hd 8 rfl
      refine step_call (w' := W) (f := 31) (args := #[.int .u64 (p.ses : Int)]) (by simp only [execOp]; go_simp) ((high64_calls _ W hsl).mono ?_)
      rintro e w' ⟨rfl, hb, hn⟩
      exact ⟨_, rfl, γ, hn, trivial, _, _, by rw [be_length], (rd_blk hb).mono fun _ _ _ => trivial, by rw [be_length]; exact Nat.le_refl _⟩
    · refine owes_plainG rfl fun dn a W γ hT hdn hdp hJ hf hd => ?_
      have e5 := hf 5 rfl
      exact step_val (w' := W) (by simp only [execOp]; go_simp) ⟨γ, newT_refl _ _, trivial, rfl⟩
    · refine owes_plainG rfl fun dn a W γ hT hdn hdp hJ hf hd => ?_
      obtain ⟨v10, d10, rfl⟩ := hd 10 rfl
      have hc := ((b2.out.below (newT_nm hT)).cell 3).trans p3
      exact step_val (w' := W) (by simp only [execOp]; go_simp) ⟨γ, newT_refl _ _, trivial, rfl⟩
    · refine owes_plainG rfl fun dn a W γ hT hdn hdp hJ hf hd => ?_
      obtain ⟨v11, d11, rfl⟩ := hd 11 rfl
      refine step_call (w' := W) (f := 24) (args := #[.int .u32 (p.ep : Int)]) (by simp only [execOp]; go_simp) ((high32_calls _ W hel).mono ?_)
      rintro e w' ⟨rfl, hb, hn⟩
      exact ⟨_, rfl, γ, hn, trivial, _, _, by rw [be_length], (rd_blk hb).mono fun _ _ _ => trivial, by rw [be_length]; exact Nat.le_refl _⟩
    · refine owes_plainG rfl fun dn a W γ hT hdn hdp hJ hf hd => ?_
      have e5 := hf 5 rfl
      exact step_val (w' := W) (by simp only [execOp]; go_simp) ⟨γ, newT_refl _ _, trivial, rfl⟩
    · refine owes_plainG rfl fun dn a W γ hT hdn hdp hJ hf hd => ?_
      obtain ⟨v13, d13, rfl⟩ := hd 13 rfl
      exact step_val (w' := W) (by simp only [execOp]; go_simp) ⟨γ, newT_refl _ _, trivial, rfl⟩
    · refine owes_plainG rfl fun dn a W γ hT hdn hdp hJ hf hd => ?_
      obtain ⟨v4, d4, A4, c4, rfl, r4, k4⟩ := hd 4 rfl
      obtain ⟨v6, d6, rfl⟩ := hd 6 rfl
      obtain ⟨v9, d9, A9, c9, rfl, r9, k9⟩ := hd 9 rfl
      obtain ⟨v12, d12, A12, c12, rfl, r12, k12⟩ := hd 12 rfl
      obtain ⟨v14, d14, rfl⟩ := hd 14 rfl
      have hb1 := b1.out.below (newT_nm hT)
      have hb2 := b2.out.below (newT_nm hT)
      refine step_val (w' := W.alloc (.cells #[.slice A4 (be 4 (peerN h.peer)).length c4, .slice (some ⟨w.heap.size + 1, 5, none⟩) 16 16, .slice A9 (be 8 p.ses).length c9, .slice A12 (be 4 p.ep).length c12, .slice (some ⟨w.heap.size + 2, 5, none⟩) 16 16] 25)) (v := .slice (some ⟨W.heap.size, 0, none⟩) 5 5) (by simp only [execOp]; go_simp) ⟨γ, NewMem.alloc _ _, trivial, _, _, rfl, ?_, Nat.le_refl _⟩
      exact rdl_five 25 r4 k4 (rd_blk_at hb1 5 _ (hxr ())) (by rw [hrl ()]; exact Nat.le_refl _) r9 k9 r12 k12 (rd_blk_at hb2 5 _ (pxr ())) (by rw [prl ()]; exact Nat.le_refl _) rfl (hrl ()).symm rfl rfl (prl ()).symm
    · refine owes_plainG rfl fun dn a W γ hT hdn hdp hJ hf hd => ?_
      obtain ⟨v0, d0, rfl⟩ := hd 0 rfl
      obtain ⟨v15, d15, A15, c15, rfl, r15, k15⟩ := hd 15 rfl
      refine step_call (w' := W) (f := 17) (args := #[.agg (bc key).toArray, .string tAns, .slice A15 5 c15]) (by simp only [execOp]; go_simp; rfl) ?_
      refine (smark_calls key (HK ()) tAns (by decide) A15 [be 4 (peerN h.peer), h.rnd, be 8 p.ses, be 4 p.ep, p.rnd] c15 W (fun _ => True) r15 k15 ((HG.out.below n1).below (newT_nm hT)) (by simp [be_length, hrl (), prl ()]) (by simp)).mono ?_
      rintro e w' ⟨rfl, hb⟩
      exact ⟨_, rfl, γ, hb, trivial, by rw [HZ ()]; show _ = Value.agg (bc (ansF key h p)).toArray; unfold ansF; rw [show [be 4 (peerN h.peer), h.rnd, be 8 p.ses, be 4 p.ep, p.rnd].flatten = be 4 (peerN h.peer) ++ (h.rnd ++ (be 8 p.ses ++ (be 4 p.ep ++ p.rnd))) from by simp]⟩
  · intro o a W γ ho hT hf hs
    obtain ⟨v16, d16, rfl⟩ := hs 16 (by omega)
    have e6 := hf 6 rfl
    have HZS : (bc z).toArray.size = 16 := by rw [List.size_toArray, bc_length, HZL ()]
    obtain ⟨o', ho', hop⟩ : ∃ o', o = o' ∧ o'.op = .store 24 (.tmp 6) (.tmp 23) := ⟨_, Option.some.inj (ho.symm.trans rfl), rfl⟩
    subst ho'
    exact fun K hK => wp_store_row 24 _ _ hop (w.heap.size + 3) _ ((eval_slot _ 6).trans e6) ((eval_slot _ 23).trans d16) _ _ (b3.out.below (newT_nm hT)) (by rw [HZS]; kernel_rfl) (by rw [HZS]; rfl) (bc_all _) (hK undef _ rfl)
  · rintro vs W γ W' hT hp rfl
    have hN := newT_nm hT
    have hZS := fun _ : Unit => (show (bc z).toArray.size = 16 by rw [List.size_toArray, bc_length, HZL ()])
    simp only [laid, Nat.reduceAdd]
    go_wp2_with fail
    refine bodyPost_ret (results_cell_row rfl _ _ (w.heap.size + 3) 24 (bc z).toArray (0, 0) _ rfl ((b3.out.below hN).setRow _) Tryd.underlying24 rfl (by rw [hZS ()]; kernel_rfl)) rfl ?_
    exact ⟨by rw [HZ ()], below_setRow_own (NewMem.trans _ _ _ n1 hN) (by omega) _⟩
end Go.Proofs.YtbhaekdfpfncnaaDoor
