/- shake.Mark. -/
import Derived.Test.YtbhaekdfpfncnaaDoorShA
import Derived.Test.YtbhaekdfpfncnaaDoorSink
import Derived.Test.YtbhaekdfpfncnaaDoorHkF
import Derived.Test.YtbhaekdfpfncnaaDoorApp2
import Derived.Lib.ConvBytes
namespace Go.Proofs.YtbhaekdfpfncnaaDoor
set_option linter.unusedVariables false
set_option linter.unusedSimpArgs false
open Go.RowKit

/-- A string's bytes in new memory. -/
theorem conv_rd (w : World) (e : TypeId) (s : ByteArray) : Rd (Lib.bytesWorld w e s) (fun _ => True) (some ⟨w.heap.size, 0, none⟩) (bc s.data.toList) ∧ s.size ≤ grownCap w s.size 0 e ∧ NewMem w (Lib.bytesWorld w e s) := by
  refine ⟨fun j u hu => ⟨_, rfl, trivial, ?_⟩, grownCap_ge _ _ _ _, ?_⟩
  · rw [Addr.add_lit, Nat.zero_add, cell_of_row _ _ j _ _ _ (Lib.bytesWorld_at_new w e s)]
    have hj : j < s.data.toList.length := by have := (List.getElem?_eq_some_iff.1 hu).1; simpa using this
    unfold Lib.bytesCells
    rw [Array.getElem?_append_left (by simpa using hj)]
    rw [← hu]
    simp [bc]
  · refine ⟨rfl, rfl, rfl, ?_, fun j hj => Lib.bytesWorld_at_old w e s j hj⟩
    simp [Lib.bytesWorld, World.freeze]
theorem run_conv (w : World) (s : ByteArray) : (convert 9 25 (.string s)).run Tryd.prog w = .ok (.slice (some ⟨w.heap.size, 0, none⟩) s.size (grownCap w s.size 0 5)) (Lib.bytesWorld w 5 s) :=
  Lib.run_convert_string_bytes w 9 25 5 s Tryd.underlying9 Tryd.underlying25 Tryd.underlying5
/-- The mark of a text and bytes. -/
def markF (key txt m : List UInt8) : List UInt8 := (mac key (txt ++ m)).take 16
theorem markF_length (k t m : List UInt8) : (markF k t m).length = 16 := by simp [markF, mac_length]
/-- A slot that points to a block of 32 zeros, whose number the ghost keeps. -/
def nT (w : World) (γ : Nat) (w' : World) (γ' : Nat) : Prop := NewMem w w' ∧ (0 < γ → γ' = γ)
theorem nT_refl (w : World) (γ : Nat) : nT w γ w γ := ⟨NewMem.refl w, fun _ => rfl⟩
theorem nT_trans (a : World) (α : Nat) (b : World) (β : Nat) (c : World) (δ : Nat) (h : nT a α b β) (k : nT b β c δ) : nT a α c δ := ⟨NewMem.trans a b c h.1 k.1, fun h0 => by
  have h1 := h.2 h0
  rw [k.2 (by omega), h1]⟩
def PrG.bytesM (l : List UInt8) : PrG nT := ⟨fun v w _ => ∃ A c, v = .slice A l.length c ∧ Rd w (fun _ => True) A (bc l) ∧ l.length ≤ c, fun _ _ _ _ _ ⟨A, c, e, h, hc⟩ ht => ⟨A, c, e, h.below ht.1, hc⟩⟩
def PrG.listsM (ls : List (List UInt8)) : PrG nT := ⟨fun v w _ => ∃ A c, v = .slice A ls.length c ∧ RdL w (fun _ => True) A ls ∧ ls.length ≤ c, fun _ _ _ _ _ ⟨A, c, e, h, hc⟩ ht => ⟨A, c, e, h.below ht.1, hc⟩⟩
def PrG.blkM (lo : Nat) (t : TypeId) (cs : Array Value) : PrG nT := ⟨fun v w γ => (0 < γ ∧ lo ≤ γ) ∧ v = .pointer (some ⟨γ, 0, none⟩) ∧ Blk w γ t cs, fun _ _ _ _ _ ⟨h0, e, h⟩ ht => by
  have := ht.2 h0.1
  subst this
  exact ⟨h0, e, h.below ht.1⟩⟩
def PrG.listsF (ls : List (List UInt8)) : PrG nT := ⟨fun v w _ => ∃ b, v = .slice (some b) ls.length ls.length ∧ RdL w (fun _ => True) (some b) ls, fun _ _ _ _ _ ⟨b, e, h⟩ ht => ⟨b, e, h.below ht.1⟩⟩
theorem NewMem.undrew {w w' : World} (h : NewMem w.drew w') : NewMem w w' := ⟨h.os, h.tape, h.output, h.size, h.block⟩
theorem exec_append {P : Program} {o : Oper} {a : Act} {w w' : World} {v u x' : Value} (s x : Operand) (t : TypeId) (ho : o.op = .call { callee := .builtin .append, args := #[s, x], argTypes := #[t, t] }) (hs : a.eval s = u) (hx : a.eval x = x')
    (hrun : (Builtin.append_ #[t, t] o.type #[u, x']).run P w = .ok v w') : (execOp a.eval o).run P w = .ok (.value v) w' := by
  unfold execOp
  simp only [ho, resolve, invoke, builtin, Sem.run_bind, Sem.run_pure, Result.andThen_ok, List.map_toArray, List.map_cons, List.map_nil, hs, hx, hrun]
def markJ (dn : Nat → Bool) (w : World) (γ : Nat) : Prop := dn 7 = false → γ = 0
theorem markJ_ne {dn : Nat → Bool} {w w' : World} {γ i : Nat} (hi : i ≠ 7) (h : markJ dn w γ) : markJ (did dn i) w' γ := fun h2 => h (by
  unfold did at h2
  rwa [if_neg (Ne.symm hi)] at h2)
theorem arr16 (w : World) (A : Option Addr) (c : Nat) : (Instr.arrayAt 24 (.slice A 16 c)).run Tryd.prog w = .ok (.pointer A) w := by
  unfold Instr.arrayAt
  rw [Sem.run_bind, run_underlying Tryd.underlying24 w]
  rfl

set_option maxHeartbeats 2000000 in
theorem smark_calls (key : List UInt8) (hk : key.length = 32) (s : ByteArray) (hs : s.size ≤ 100000) (A : Option Addr) (ls : List (List UInt8)) (c : Nat) (w : World) (F : Nat → Prop) (hr : RdL w F A ls) (hc : ls.length ≤ c) (hG : Glb w) (hl : ls.flatten.length ≤ 100000) (hn : ls.length ≤ 100000) :
    Calls Tryd.prog 17 #[.agg (bc key).toArray, .string s, .slice A ls.length c] w fun e w' => e = .returned (.agg (bc (markF key s.data.toList ls.flatten)).toArray) ∧ Below w.heap.size w w' := by
  have HR := Lib.hid hr
  have HG := Lib.hid hG
  have HK := fun _ : Unit => hk
  have hcv := run_conv
  have hsl : s.size = s.data.toList.length := by rw [Array.length_toList]; rfl
  have HSL := fun _ : Unit => hsl
  obtain ⟨i0, hi0, hz0, hz1, hz2⟩ := info_parts info_rows
  clear hr hG hk hsl
  go_enter Tryd.func17, Tryd.ntmps17
  go_wp2_with fail
  generalize hw1 : World.alloc (World.alloc w _) _ = w1
  have b0 : Hid (Blk w1 w.heap.size 31 (bc key).toArray) := by show Blk _ _ _ _; rw [← hw1]; exact (Blk.new _ _ _).alloc _
  have b1 : Hid (Blk w1 (w.heap.size + 1) 24 (bc (List.replicate 16 0)).toArray) := by show Blk _ _ _ _; rw [← hw1, z16]; exact Blk.newAt _ _ (by simp)
  have n1 : NewMem w w1 := by rw [← hw1]; exact (NewMem.alloc _ _).more _
  have HR1 := Lib.hid (HR.out.below n1)
  clear hw1
  obtain ⟨z, hz⟩ : ∃ z, z = mac key (s.data.toList ++ ls.flatten) := ⟨_, rfl⟩
  have hzl : z.length = 32 := by rw [hz, mac_length]
  have HZ := fun _ : Unit => hz
  have HZL := fun _ : Unit => hzl
  clear hz hzl
  refine region_sink (T0 := nT) nT_trans nT_refl 0 8 (fun W γ W' => 0 < γ ∧ Blk W γ 31 (bc (List.replicate 32 0)).toArray ∧ w.heap.size + 2 ≤ γ ∧ W' = W.setRow γ (bc z).toArray) markJ (fun _ => rfl)
    [.is (.slice (some ⟨w.heap.size, 0, none⟩) 32 32), .is (.string s),   .bytesM s.data.toList, .listsF [s.data.toList], .is (.slice A ls.length c), .listsM (s.data.toList :: ls), .is (.agg (bc z).toArray),   .blkM (w.heap.size + 2) 31 (bc (List.replicate 32 0)).toArray] (by kernel_rfl) (by kernel_rfl) (by kernel_rfl) (by kernel_rfl) ?_ ?_ ?_
  · refine ⟨?_, ?_, ?_, ?_, ?_, ?_, ?_, ?_, trivial⟩
    · refine owes_plainG rfl fun dn a W γ hT hdn hdp hJ hf hd => ?_
      have e3 := hf 3 rfl
      exact step_val (w' := W) (by simp only [execOp]; go_simp) ⟨γ, nT_refl _ _, markJ_ne (by decide) hJ, rfl⟩
    · refine owes_plainG rfl fun dn a W γ hT hdn hdp hJ hf hd => ?_
      have e3 := hf 1 rfl
      exact step_val (w' := W) (by simp only [execOp]; go_simp) ⟨γ, nT_refl _ _, markJ_ne (by decide) hJ, rfl⟩
    · refine owes_plainG rfl fun dn a W γ hT hdn hdp hJ hf hd => ?_
      obtain ⟨v, e, rfl⟩ := hd 1 rfl
      have hv := conv_rd W 5 s
      refine step_val (w' := Lib.bytesWorld W 5 s) (v := .slice (some ⟨W.heap.size, 0, none⟩) s.size (grownCap W s.size 0 5)) (by simp only [execOp]; go_simp) ⟨γ, ⟨hv.2.2, fun _ => rfl⟩, markJ_ne (by decide) hJ, _, _, by rw [← HSL ()], hv.1, by rw [← HSL ()]; exact hv.2.1⟩
    · refine owes_plainG rfl fun dn a W γ hT hdn hdp hJ hf hd => ?_
      obtain ⟨v, e, A1, c1, rfl, hr1, hc1⟩ := hd 2 rfl
      refine step_val (w' := W.alloc (.cells #[.slice A1 s.data.toList.length c1] 25)) (v := .slice (some ⟨W.heap.size, 0, none⟩) 1 1) (by simp only [execOp]; go_simp) ⟨γ, ⟨NewMem.alloc _ _, fun _ => rfl⟩, markJ_ne (by decide) hJ, _, rfl, (rdl_one 25 hr1 hc1 rfl).mono fun _ _ _ => trivial⟩
    · refine owes_plainG rfl fun dn a W γ hT hdn hdp hJ hf hd => ?_
      have e3 := hf 2 rfl
      exact step_val (w' := W) (by simp only [execOp]; go_simp) ⟨γ, nT_refl _ _, markJ_ne (by decide) hJ, rfl⟩
    · refine owes_plainG rfl fun dn a W γ hT hdn hdp hJ hf hd => ?_
      obtain ⟨v3, e3, b3, rfl, hr3⟩ := hd 3 rfl
      obtain ⟨v4, e4, rfl⟩ := hd 4 rfl
      obtain ⟨b', c', w', hrun, h2, h3, h4⟩ := run_append_lists (P := Tryd.prog) W 38 38 25 i0 _ Tryd.underlying38 hi0 hz0 hz1 hz2 rfl b3 [s.data.toList] _ hr3 A c ls _ (HR1.out.below hT.1.undrew) (by simp; omega)
      exact step_val (w' := w') (v := .slice (some b') ([s.data.toList] ++ ls).length c') (exec_append (.tmp 11) (.tmp 12) _ rfl ((eval_slot a 11).trans e3) ((eval_slot a 12).trans e4) hrun) ⟨γ, ⟨h4, fun _ => rfl⟩, markJ_ne (by decide) hJ, _, _, rfl, h2, h3⟩
    · refine owes_plainG rfl fun dn a W γ hT hdn hdp hJ hf hd => ?_
      obtain ⟨v0, e0, rfl⟩ := hd 0 rfl
      obtain ⟨v5, e5, A5, c5, rfl, hr5, hc5⟩ := hd 5 rfl
      have hN := NewMem.undrew hT.1
      refine step_call (w' := W) (f := 28) (args := #[.slice (some ⟨w.heap.size, 0, none⟩) 32 32, .slice A5 (s.data.toList :: ls).length c5]) (by simp only [execOp]; go_simp) ?_
      rw [show (32 : Nat) = key.length from (HK ()).symm]
      refine (hmac_calls (some ⟨w.heap.size, 0, none⟩) key key.length A5 (s.data.toList :: ls) c5 W (fun _ => True) ((rd_blk (b0.out.below hN)).mono fun _ _ _ => trivial) (Nat.le_refl _) hr5 ((HG.out.below n1).below hN) (by rw [HK ()]; omega) (by rw [List.flatten_cons, List.length_append, ← HSL ()]; omega) (by simp; omega)).mono ?_
      rintro e w' ⟨rfl, hb⟩
      exact ⟨_, rfl, γ, ⟨hb, fun _ => rfl⟩, markJ_ne (by decide) hJ, by rw [List.flatten_cons, ← HZ ()]; rfl⟩
    · refine owes_plainG rfl fun dn a W γ hT hdn hdp hJ hf hd => ?_
      refine step_val (w' := W.alloc (.cells (bc (List.replicate 32 0)).toArray 31)) (v := .pointer (some ⟨W.heap.size, 0, none⟩)) (by rw [z32]; simp only [execOp]; go_simp) ⟨W.heap.size, ⟨NewMem.alloc _ _, fun h => ?_⟩, fun h => ?_, ⟨?_, ?_⟩, rfl, Blk.new _ _ _⟩
      · have := hJ hdn
        omega
      · simp [did] at h
      · have := hT.1.size
        have := b0.out.lt
        simp at *
        omega
      · have := hT.1.size
        have := b1.out.lt
        simp at *
        omega
  · intro o a W γ ho hT hf hs
    obtain ⟨v6, e6, rfl⟩ := hs 6 (by omega)
    obtain ⟨v7, e7, h0, rfl, hb⟩ := hs 7 (by omega)
    have HZS : (bc z).toArray.size = 32 := by rw [List.size_toArray, bc_length, HZL ()]
    obtain ⟨o', ho', hop⟩ : ∃ o', o = o' ∧ o'.op = .store 31 (.tmp 7) (.tmp 14) := ⟨_, Option.some.inj (ho.symm.trans rfl), rfl⟩
    subst ho'
    exact fun K hK => wp_store_row 31 _ _ hop γ _ ((eval_slot _ 7).trans e7) ((eval_slot _ 14).trans e6) _ _ hb (by rw [HZS]; kernel_rfl) (by rw [HZS]; rfl) (bc_all _) (hK undef _ ⟨h0.1, hb, h0.2, rfl⟩)
  · rintro vs W γ W' hT hp ⟨h0, hb, hge, rfl⟩
    obtain ⟨h1, e7, _⟩ := hp 7 (by omega)
    have hN := NewMem.undrew hT.1
    simp only [laid, Nat.reduceAdd, e7]
    have B1 : Hid (Blk (W.setRow γ (bc z).toArray) (w.heap.size + 1) 24 (bc (List.replicate 16 0)).toArray) := Lib.hid ((b1.out.below hN).setRow_far (by omega) _)
    have BZ : Hid (Blk (W.setRow γ (bc z).toArray) γ 31 (bc z).toArray) := Lib.hid (hb.setRow _)
    have hbl : Below w.heap.size w (W.setRow γ (bc z).toArray) := below_setRow_own (NewMem.trans _ _ _ n1 hN) (by omega) _
    generalize W.setRow γ (bc z).toArray = W2 at *
    clear e7 hp hT hb
    have hd := arr16 W2 (some ⟨γ, 0, none⟩) 32
    have HT : Hid (Rd W2 (fun k => k = γ) (some ⟨γ, 0, none⟩) (bc (z.take 16))) := by
      show Rd _ _ _ _
      rw [show bc (z.take 16) = (bc z).take 16 from by simp [bc]]
      exact (rd_blk BZ.out).take 16
    have HC : ∀ (j : Nat) (v : Value), (bc (z.take 16))[j]? = some v → W2.cell? ((⟨γ, 0, none⟩ : Addr).add j) = some v := fun j v h => by
      obtain ⟨ad, e', _, h'⟩ := HT.out j v h
      cases e'
      exact h'
    have HC := Lib.hid HC
    have HTS : (bc (z.take 16)).toArray.size = 16 := by rw [List.size_toArray, bc_length, List.length_take, HZL ()]; rfl
    have HTL : (bc (z.take 16)).length = 16 := by rw [bc_length, List.length_take, HZL ()]; rfl
    have HTS' := fun _ : Unit => HTS
    have HTL' := fun _ : Unit => HTL
    clear HTS HTL
    go_wp2_with (first | (refine wpList_load_rd rfl 24 _ rfl ⟨γ, 0, none⟩ rfl (bc (z.take 16)) _ HC.out Tryd.underlying24 rfl (by rw [HTL' ()]; kernel_rfl) ?_; clear hd) | (refine wpList_store_row rfl 24 _ _ rfl (w.heap.size + 1) (bc (z.take 16)).toArray rfl rfl 24 _ B1.out (by rw [HTS' ()]; kernel_rfl) (by rw [HTS' ()]; rfl) (bc_all _) ?_))
    refine bodyPost_ret (results_cell_row rfl _ _ (w.heap.size + 1) 24 (bc (z.take 16)).toArray (0, 0) _ rfl (B1.out.setRow _) Tryd.underlying24 rfl (by rw [HTS' ()]; kernel_rfl)) rfl ?_
    exact ⟨by rw [HZ ()]; rfl, below_setRow_own hbl (by omega) _⟩
end Go.Proofs.YtbhaekdfpfncnaaDoor
