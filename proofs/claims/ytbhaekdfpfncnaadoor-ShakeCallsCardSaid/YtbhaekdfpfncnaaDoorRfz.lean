/- drawbridgeref10.Mark. -/
import Derived.Test.YtbhaekdfpfncnaaDoorRfB
import Derived.Test.YtbhaekdfpfncnaaDoorBuf
import Derived.Test.YtbhaekdfpfncnaaDoorR5D
import Derived.Test.YtbhaekdfpfncnaaDoorShB
import Derived.Test.YtbhaekdfpfncnaaDoorShE
import Derived.Test.YtbhaekdfpfncnaaDoorShG
import Derived.Test.YtbhaekdfpfncnaaDoorR5E
import Derived.Test.YtbhaekdfpfncnaaDoorShH
namespace Go.Proofs.YtbhaekdfpfncnaaDoor
set_option linter.unusedVariables false
set_option linter.unusedSimpArgs false
open Go.RowKit

theorem conv_buf (w : World) (e : TypeId) (s : ByteArray) (hs : s.size ≤ maxLen) : Buf (Lib.bytesWorld w e s) (fun k => k = w.heap.size) (.slice (some ⟨w.heap.size, 0, none⟩) s.size (grownCap w s.size 0 e)) (bc s.data.toList) := by
  have hl : (bc s.data.toList).length = s.size := by rw [bc_length, Array.length_toList]; rfl
  have hnew := Lib.bytesWorld_at_new w e s
  have hsz : (Lib.bytesCells w e s).size = grownCap w s.size 0 e := by
    have := grownCap_ge w s.size 0 e
    simp [Lib.bytesCells]
    have : s.data.size = s.size := rfl
    omega
  obtain ⟨hr, hge, hn⟩ := conv_rd w e s
  refine .inr ⟨w.heap.size, 0, _, by rw [hl], rfl, (Array.getElem?_eq_some_iff.1 hnew).1, by rw [hl]; exact hge, grownCap_le_maxLen w s.size 0 e hs, fun j u hu => ?_, fun j h1 h2 => ⟨?_, ?_⟩⟩
  · obtain ⟨ad, he, _, hc⟩ := hr j u hu
    cases he
    rwa [Addr.add_lit] at hc
  · rw [Nat.zero_add, cell_of_row _ _ j _ _ _ hnew, Array.getElem?_eq_getElem (by omega)]
    rfl
  · rw [Nat.zero_add]
    simp [World.frozen?, hnew]
    omega
theorem exec_copy {P : Program} {o : Oper} {a : Act} {w w' : World} {v u x' : Value} (s x : Operand) (t : TypeId) (ho : o.op = .call { callee := .builtin .copy, args := #[s, x], argTypes := #[t, t] }) (hs : a.eval s = u) (hx : a.eval x = x')
    (hrun : (Builtin.copy_ #[t, t] o.type #[u, x']).run P w = .ok v w') : (execOp a.eval o).run P w = .ok (.value v) w' := by
  unfold execOp
  simp only [ho, resolve, invoke, builtin, Sem.run_bind, Sem.run_pure, Result.andThen_ok, List.map_toArray, List.map_cons, List.map_nil, hs, hx, hrun]
theorem below_buf {B : Nat} {w w1 w2 : World} {v : Value} {xs : List Value} {F : Nat → Prop} (h : Below B w w1) (hg : w1.grownBy w2 v.ownBlock) (hb : Buf w1 F v xs) (hF : ∀ k, F k → B ≤ k) (hB : B ≤ w1.heap.size) : Below B w w2 :=
  h.grown hg hB fun k hk => hF k (hb.own k hk).1

theorem cut16 (g : Nat) (w : World) : (Instr.sliceAt 31 (.pointer (some ⟨g, 0, none⟩)) none (some (.int .i64 16)) none).run Tryd.prog w = .ok (.slice (some ⟨g, 0, none⟩) 16 32) w := by kernel_rfl
theorem flat_take (ls : List (List UInt8)) (k : Nat) (h : k < ls.length) : (ls.take (k + 1)).flatten = (ls.take k).flatten ++ ls[k] := by
  rw [List.take_add_one, List.getElem?_eq_getElem h, List.flatten_append]
  simp
theorem flat_le (ls : List (List UInt8)) (k : Nat) : (ls.take k).flatten.length ≤ ls.flatten.length := by
  have e : ls.flatten = (ls.take k).flatten ++ (ls.drop k).flatten := by rw [← List.flatten_append, List.take_append_drop]
  rw [e, List.length_append]
  omega
set_option maxHeartbeats 4000000 in
theorem rmark_calls (key : List UInt8) (hk : key.length = 32) (s : ByteArray) (hs : s.size ≤ 100000) (A : Option Addr) (ls : List (List UInt8)) (c : Nat) (w : World) (F : Nat → Prop) (hr : RdL w F A ls) (hc : ls.length ≤ c) (hG : Glb w) (hl : ls.flatten.length ≤ 100000) (hn : ls.length ≤ 100000) :
    Calls Tryd.prog 18 #[.agg (bc key).toArray, .string s, .slice A ls.length c] w fun e w' => e = .returned (.agg (bc (markF key s.data.toList ls.flatten)).toArray) ∧ Below w.heap.size w w' := by
  have HR := Lib.hid hr
  have HG := Lib.hid hG
  have HK := fun _ : Unit => hk
  have HKS : Unit → (bc key).toArray.size = 32 := fun _ => by rw [List.size_toArray, bc_length, hk]
  have HL := fun _ : Unit => hl
  have hcv := run_conv
  have hsl : s.size = s.data.toList.length := by rw [Array.length_toList]; rfl
  have HSL := fun _ : Unit => hsl
  obtain ⟨i0, hi0, hz0, hz1, hz2⟩ := info_parts info_u8
  clear hr hG hk hsl hl
  go_enter Tryd.func18, Tryd.ntmps18
  go_wp2_with fail
  generalize hw1 : World.alloc (World.alloc w _) _ = w1
  have b0 : Hid (Blk w1 w.heap.size 31 (bc key).toArray) := by show Blk _ _ _ _; rw [← hw1]; exact (Blk.new _ _ _).alloc _
  have b1 : Hid (Blk w1 (w.heap.size + 1) 24 (bc (List.replicate 16 0)).toArray) := by show Blk _ _ _ _; rw [← hw1, z16]; exact Blk.newAt _ _ (by simp)
  have n1 : NewMem w w1 := by rw [← hw1]; exact (NewMem.alloc _ _).more _
  have hg1 : w1.heap.size = w.heap.size + 1 + 1 := by rw [← hw1]; simp
  have hbf := conv_buf w1 5 s (by unfold maxLen; omega)
  have n12 := (conv_rd w1 5 s).2.2
  clear hw1
  generalize Lib.bytesWorld w1 5 s = w2 at *
  generalize grownCap w1 s.size 0 5 = cp at *
  rw [hg1] at hbf
  have HBF : Hid (Buf w2 (fun k => w1.heap.size ≤ k) (.slice (some ⟨w.heap.size + 1 + 1, 0, none⟩) s.size cp) (bc (s.data.toList ++ (ls.take 0).flatten))) := Lib.hid (by
    rw [List.take_zero, List.flatten_nil, List.append_nil]
    exact hbf.mono fun k _ hk => by omega)
  have N12 : Hid (Below w1.heap.size w1 w2) := Lib.hid n12
  have L1 := n1.size
  clear hbf n12 hcv
  go_loopw [7, 8] (fun b i wr => ∃ (k : Nat) (q : List UInt8), k ≤ ls.length ∧ i = .int .i64 k ∧ Hid (q = s.data.toList ++ (ls.take k).flatten) ∧ Hid (Buf wr (fun k => w1.heap.size ≤ k) b (bc q)) ∧ Hid (Below w1.heap.size w1 wr)) (fun _ i _ => ls.length - (intOf i).toNat)
  case atStart => exact ⟨0, _, Nat.zero_le _, rfl, rfl, HBF, N12⟩
  case round =>
    clear HBF N12
    obtain ⟨k, q, hk, rfl, hq, hB, hN⟩ := hrel
    by_cases hlt : k < ls.length
    · have HRw := (HR.out.below n1).below hN.out
      obtain ⟨b, off, hA, _, hcell⟩ := HRw.form (by omega)
      obtain ⟨a, c2, hc2, hra, hlc⟩ := hcell k ls[k] (List.getElem?_eq_getElem hlt)
      have hq2 : q ++ ls[k] = s.data.toList ++ (ls.take (k + 1)).flatten := by rw [hq.out, flat_take ls k hlt, List.append_assoc]
      have hql : q.length + ls[k].length ≤ 300000 := by
        rw [← List.length_append, hq2, List.length_append, ← HSL ()]
        have := HL ()
        have := flat_le ls (k + 1)
        omega
      obtain ⟨m, hm⟩ : ∃ m, m = ls[k].length := ⟨_, rfl⟩
      obtain ⟨x, hx⟩ : ∃ x, x = ls[k] := ⟨_, rfl⟩
      rw [← hx] at hra hq2
      rw [← hm] at hc2 hql
      have hmx : m = x.length := by rw [hm, hx]
      have HRA := Lib.hid hra
      have HQ2 := Lib.hid hq2
      have HMX := Lib.hid hmx
      subst hA
      clear hm hx hmx hq2 hra hcell HRw
      go_wp2_with (at_builtin; refine wpList_append_buf _ rfl (.tmp 19) (.tmp 23) _ rfl 5 i0 _ 1 Tryd.underlying25 hi0 hz0 hz1 hz2 rfl rfl hB.out _ m c2 (bc x) rfl (by rw [HMX.out, bc_length]) HRA.out (bc_one _) (by rw [bc_length, bc_length, ← HMX.out]; unfold maxLen; omega) (by rw [bc_length, bc_length, ← HMX.out]; omega) ?_; intro v3 w3 hB3 hg3 hat3)
      have N3 := Lib.hid (below_buf hN.out hg3 hB.out (fun _ h => h) hN.out.size)
      have hs3 := hN.out.size
      rw [← bc_append, HQ2.out] at hB3
      have B3 := Lib.hid (hB3.mono (G := fun k => w1.heap.size ≤ k) fun k _ h => by rcases h with h | h <;> omega)
      clear hB3 hg3 hat3 hB hN hq
      go_wp2_with fail
      go_roundw
      case rel => exact ⟨k + 1, _, by omega, by go_num, rfl, B3, N3⟩
      case measure => simp [intOf]; omega
    · have hke : k = ls.length := by omega
      subst hke
      have hqe : q = s.data.toList ++ ls.flatten := by rw [hq.out, List.take_length]
      have hql : q.length ≤ 300000 := by rw [hqe, List.length_append, ← HSL ()]; have := HL (); omega
      obtain ⟨A1, c1, rfl, hr1, hc1⟩ := hB.out.form
      rw [bc_length] at hc1 ⊢
      have HR1 := Lib.hid hr1
      have HQE := Lib.hid hqe
      have b0 := Lib.hid (blk_below b0.out hN.out b0.out.lt)
      have b1 := Lib.hid (blk_below b1.out hN.out b1.out.lt)
      have n3 : NewMem w wr := NewMem.trans _ _ _ n1 hN.out
      have HG3 := Lib.hid (HG.out.below n3)
      obtain ⟨z, hz⟩ : ∃ z, z = mac key q := ⟨_, rfl⟩
      have hzl : z.length = 32 := by rw [hz, mac_length]
      have HZ := fun _ : Unit => hz
      have HZL := fun _ : Unit => hzl
      clear hqe hr1 hB hN hz hzl hq HR
      go_wp2_with fail
      have hsz := n3.size
      have hmac := rmac_calls (some ⟨w.heap.size, 0, none⟩) key 32 (some ⟨wr.heap.size, 0, none⟩) [q] 1 (wr.alloc (.cells #[.slice A1 q.length c1] 25)) (fun _ => True) ((rd_blk (b0.out.alloc _)).mono fun _ _ _ => trivial) (by rw [HK ()]; omega) ((rdl_one 25 HR1.out hc1 rfl).mono fun _ _ _ => trivial) (HG3.out.below (NewMem.alloc _ _)) (by rw [HK ()]; omega) (by simp; omega) (by simp)
      rw [HK ()] at hmac
      simp only [List.length_cons, List.length_nil, Nat.zero_add, List.flatten_cons, List.flatten_nil, List.append_nil] at hmac
      rw [← HZ ()] at hmac
      refine hmac.mono ?_
      clear hmac
      rintro e w4 ⟨rfl, hb4⟩
      have n4 : NewMem w w4 := NewMem.trans _ _ _ (n3.more _) hb4
      have b1 := Lib.hid ((b1.out.alloc _).below hb4)
      clear n3 hb4 b0 HR1 hsz HG3
      obtain ⟨g, hg⟩ : ∃ g, g = w4.heap.size := ⟨_, rfl⟩
      have hgl : w.heap.size + 1 < g := by rw [hg]; exact b1.out.lt
      have ZZ : Unit → (bc z).toArray.size = 32 := fun _ => by rw [List.size_toArray, bc_length, HZL ()]
      go_wp2_with (refine at_store 31 ?_; refine wpList_store_row rfl 31 _ _ rfl w4.heap.size (bc z).toArray rfl rfl _ _ (Blk.new _ _ _) (by rw [ZZ ()]; kernel_rfl) (by rw [ZZ ()]; rfl) (bc_all _) ?_)
      generalize hw5 : World.alloc (World.setRow _ _ _) _ = w5
      have b2 : Hid (Blk w5 g 31 (bc z).toArray) := by show Blk _ _ _ _; rw [← hw5, hg]; exact ((Blk.new _ _ (bc (List.replicate 32 0)).toArray).setRow _).alloc _
      have b3 : Hid (Blk w5 (g + 1) 24 (bc (List.replicate 16 0)).toArray) := by show Blk _ _ _ _; rw [← hw5, hg, z16]; exact Blk.newAt _ _ (by simp)
      have n45 : NewMem w4 w5 := by rw [← hw5]; exact NewMem.more (below_setRow_own (NewMem.alloc _ _) (Nat.le_refl _) _) _
      have b1 := Lib.hid (b1.out.below n45)
      have n5 : NewMem w w5 := NewMem.trans _ _ _ n4 n45
      rw [← hg]
      clear hw5 n45 n4 hg
      have hct := cut16 g
      refine region_toG (T := frT (g + 1)) (J := chJ [2] (g + 1) 24 [(bc (List.replicate 16 0)).toArray, (bc (z.take 16)).toArray]) (frT_trans _) (frT_refl _) () (fun vs W γ => Blk W (g + 1) 24 (bc (z.take 16)).toArray) (by kernel_rfl) (by kernel_rfl) (by kernel_rfl) (chJ_start _ b3.out rfl) ⟨prOfG ([.is (.slice (some ⟨g + 1, 0, none⟩) 16 16), .is (.slice (some ⟨g, 0, none⟩) 16 32), .any] : List (PrG (frT (g + 1)))), prOfG_st _, no_none (by kernel_rfl), ⟨?_, ?_, ?_, trivial⟩, fun vs W γ hT hJ hp => chJ_end hJ (by intro i hi; simp at hi; subst hi; kernel_rfl) _ rfl rfl⟩ ?_
      · refine owes_plainG rfl fun dn a W γ hT hdn hdp hJ hf hd => ?_
        have e10 := hf 10 rfl
        exact step_val (w' := W) (by simp only [execOp]; go_simp) ⟨γ, frT_refl _ _ _, chJ_ne (by decide) hJ, rfl⟩
      · refine owes_plainG rfl fun dn a W γ hT hdn hdp hJ hf hd => ?_
        have e9 := hf 9 rfl
        exact step_val (w' := W) (by simp only [execOp]; go_simp) ⟨γ, frT_refl _ _ _, chJ_ne (by decide) hJ, rfl⟩
      · refine owes_plainG rfl fun dn a W γ hT hdn hdp hJ hf hd => ?_
        obtain ⟨v0, d0, rfl⟩ := hd 0 rfl
        obtain ⟨v1, d1, rfl⟩ := hd 1 rfl
        obtain ⟨C, hC, hb, hnx⟩ := chJ_step (by decide) 0 2 rfl (Or.inl rfl) hdn hJ
        obtain rfl := Option.some.inj hC
        have hbz := b2.out.keep (frT_fr hT) (by omega)
        have hrun := run_copy_row (P := Tryd.prog) W 25 25 3 5 (g + 1) 0 16 16 ⟨g, 0, none⟩ 16 32 (bc (List.replicate 16 0)).toArray 24 (bc (z.take 16)) Tryd.underlying25 (by kernel_rfl) hb (by simp [HZL ()]) (fun j v hv => by rw [Addr.add_lit, Nat.zero_add, hbz.cell, List.getElem?_toArray]; rw [bc_take, List.getElem?_take] at hv; split at hv; exact hv; cases hv) (by simp [HZL ()]) (bc_one _)
        refine step_val (w' := _) (exec_copy (.tmp 29) (.tmp 30) _ rfl ((eval_slot a 29).trans d0) ((eval_slot a 30).trans d1) hrun) ⟨γ, (Fr.refl (fun b => b = g + 1) _).setRow (g := g + 1) (fun _ => rfl) _, hnx _ _ rfl ?_, trivial⟩
        have := hb.setRow (bc (z.take 16)).toArray
        rw [show ((bc (List.replicate 16 0)).toArray.toList.take 0 ++ bc (z.take 16) ++ (bc (List.replicate 16 0)).toArray.toList.drop (0 + (bc (z.take 16)).length)) = bc (z.take 16) from by rw [List.take_zero, List.nil_append, List.drop_of_length_le (by simp [HZL ()]), List.append_nil]]
        exact this
      · intro vs w6 γ hT hb6
        have b1 := Lib.hid (b1.out.keep (frT_fr hT) (by omega))
        have n6 : NewMem w w6 := below_fr n5 (frT_fr hT) (Nat.le_refl _) (fun k hk => by omega)
        have B6 := Lib.hid hb6
        have Z16L : Unit → (bc (z.take 16)).toArray.size = 16 := fun _ => by simp [HZL ()]
        simp only [laid, Nat.reduceAdd]
        clear hT hb6 n5 b2 b3
        generalize vs 0 = v29
        generalize vs 1 = v30
        generalize vs 2 = v31
        go_wp2_with (first | (refine at_slot 32 ?_; refine wpList_load_row rfl 24 _ rfl (g + 1) rfl _ (bc (z.take 16)).toArray (0, 0) _ B6.out Tryd.underlying24 rfl (by rw [Z16L ()]; kernel_rfl) ?_) | (refine at_store 24 ?_; refine wpList_store_row rfl 24 _ _ rfl (w.heap.size + 1) (bc (z.take 16)).toArray rfl rfl _ _ b1.out (by rw [Z16L ()]; kernel_rfl) (by rw [Z16L ()]; rfl) (bc_all _) ?_))
        refine bodyPost_ret (results_cell_row rfl _ _ (w.heap.size + 1) 24 (bc (z.take 16)).toArray (0, 0) _ rfl (b1.out.setRow _) Tryd.underlying24 rfl (by rw [Z16L ()]; kernel_rfl)) rfl ?_
        exact ⟨by rw [markF, HZ (), HQE.out], below_setRow_own n6 (by omega) _⟩
end Go.Proofs.YtbhaekdfpfncnaaDoor

namespace Go.Proofs.YtbhaekdfpfncnaaDoor
set_option linter.unusedVariables false
set_option linter.unusedSimpArgs false
open Go.RowKit

/-- A peer's number as 64 bits. -/
def peerW (n : Int) : Nat := (n % 18446744073709551616).toNat
theorem peerW_eq (n : Int) : (peerW n : Int) = n % 18446744073709551616 := by unfold peerW; omega
theorem peerW_lt (n : Int) : peerW n < 18446744073709551616 := by unfold peerW; omega
theorem be_peer (n : Int) : be 4 (peerW n) = be 4 (peerN n) := by
  refine List.ext_getElem? fun j => ?_
  by_cases hj : j < 4
  · rw [be_get 4 _ j hj, be_get 4 _ j hj]
    have h1 := peerW_eq n
    have h2 := peerN_eq n
    generalize peerW n = a at *
    generalize peerN n = b at *
    congr 1
    refine UInt8.toNat_inj.1 ?_
    rw [UInt8.toNat_ofNat', UInt8.toNat_ofNat']
    obtain rfl | rfl | rfl | rfl : j = 0 ∨ j = 1 ∨ j = 2 ∨ j = 3 := by omega
    · omega
    · omega
    · omega
    · omega
  · rw [List.getElem?_eq_none (by rw [be_length]; omega), List.getElem?_eq_none (by rw [be_length]; omega)]
theorem big_bytes {w w' : World} {l : List UInt8} {A : Option Addr} {c : Nat} {base : Nat} {e : TypeId} (h : w'.ownsRow base e 1 (.slice A l.length c) l.length (bc l)) : Rd w' (fun _ => True) A (bc l) ∧ l.length ≤ c := by
  refine ⟨(Rd.of_own h (by decide)).mono fun _ _ _ => trivial, ?_⟩
  obtain ⟨_, _, e1, e2, _⟩ := own_shape h
  injection e1 with _ _ e1
  rw [e1]
  exact e2

set_option maxHeartbeats 4000000 in
theorem rhmark_calls (key : List UInt8) (hk : key.length = 32) (h : PK) (hh : h.ok) (w : World) (hG : Glb w) :
    Calls Tryd.prog 27 #[.agg (bc key).toArray, .agg h.X] w fun e w' => e = .returned (.agg (bc (helF key h.peer h.rnd)).toArray) ∧ Below w.heap.size w w' := by
  have HG := Lib.hid hG
  have HK := fun _ : Unit => hk
  have h1 := h.x1
  have hxr := fun _ : Unit => PK.xr hh
  have hrl := fun _ : Unit => hh.rnd
  obtain ⟨z, hz⟩ : ∃ z, z = helF key h.peer h.rnd := ⟨_, rfl⟩
  have hzl : z.length = 16 := by rw [hz]; exact helF_length _ _ _
  have HZ := fun _ : Unit => hz
  have HZL := fun _ : Unit => hzl
  have hpn := peerW_eq h.peer
  have hpl := peerW_lt h.peer
  have BP := fun _ : Unit => be_peer h.peer
  obtain ⟨X, hX⟩ : ∃ X, X = h.X := ⟨_, rfl⟩
  rw [← hX] at h1 hxr ⊢
  clear hG hk hz hzl hh hX
  go_enter Tryd.func27, Tryd.ntmps27
  go_wp2_with fail
  generalize hw1 : World.alloc (World.alloc (World.alloc w _) _) _ = w1
  have b0 : Hid (Blk w1 w.heap.size 31 (bc key).toArray) := by show Blk _ _ _ _; rw [← hw1]; exact ((Blk.new _ _ _).alloc _).alloc _
  have b1 : Hid (Blk w1 (w.heap.size + 1) 27 X) := by show Blk _ _ _ _; rw [← hw1]; exact (Blk.newAt _ _ (by simp)).alloc _
  have b3 : Hid (Blk w1 (w.heap.size + 2) 24 (bc (List.replicate 16 0)).toArray) := by show Blk _ _ _ _; rw [← hw1, z16]; exact Blk.newAt _ _ (by simp)
  have n1 : NewMem w w1 := by rw [← hw1]; exact ((NewMem.alloc _ _).more _).more _
  clear hw1
  refine region_sink (T0 := newT) newT_trans newT_refl () 9 (fun W γ W' => W' = W.setRow (w.heap.size + 2) (bc z).toArray) noJ trivial
    [.is (.agg (bc key).toArray), .is (.pointer (some ⟨w.heap.size + 1, 1, none⟩)), .is (.int .i64 h.peer), .is (.int .u64 (peerW h.peer : Int)), .bytesN (be 4 (peerN h.peer)), .is (.pointer (some ⟨w.heap.size + 1, 5, none⟩)), .is (.slice (some ⟨w.heap.size + 1, 5, none⟩) 16 16), .listsN [be 4 (peerN h.peer), h.rnd], .is (.agg (bc z).toArray)] (by kernel_rfl) (by kernel_rfl) (by kernel_rfl) (by kernel_rfl) ?_ ?_ ?_
  · refine ⟨?_, ?_, ?_, ?_, ?_, ?_, ?_, ?_, ?_, trivial⟩
    · refine owes_plainG rfl fun dn a W γ hT hdn hdp hJ hf hd => ?_
      have e3 := hf 2 rfl
      have hb := b0.out.below (newT_nm hT)
      exact step_load_row 31 _ rfl ((eval_slot _ 2).trans e3) hb Tryd.underlying31 rfl (by rw [List.size_toArray, bc_length, HK ()]; kernel_rfl) ⟨γ, newT_refl _ _, trivial, rfl⟩
    · refine owes_plainG rfl fun dn a W γ hT hdn hdp hJ hf hd => ?_
      have e3 := hf 3 rfl
      exact step_val (w' := W) (by simp only [execOp]; go_simp) ⟨γ, newT_refl _ _, trivial, rfl⟩
    · refine owes_plainG rfl fun dn a W γ hT hdn hdp hJ hf hd => ?_
      obtain ⟨v1, d1, rfl⟩ := hd 1 rfl
      have hc := ((b1.out.below (newT_nm hT)).cell 1).trans h1
      exact step_val (w' := W) (by simp only [execOp]; go_simp) ⟨γ, newT_refl _ _, trivial, rfl⟩
    · refine owes_plainG rfl fun dn a W γ hT hdn hdp hJ hf hd => ?_
      obtain ⟨v2, d2, rfl⟩ := hd 2 rfl
      have hwr : IntKind.u64.wrap h.peer = (peerW h.peer : Int) := by rw [hpn]; rfl
      exact step_val (w' := W) (by simp only [execOp]; go_simp) ⟨γ, newT_refl _ _, trivial, rfl⟩
    · refine owes_plainG rfl fun dn a W γ hT hdn hdp hJ hf hd => ?_
      obtain ⟨v3, d3, rfl⟩ := hd 3 rfl
      refine step_call (w' := W) (f := 33) (args := #[.int .u64 (peerW h.peer : Int), .int .i64 4]) (by simp only [execOp]; go_simp) ?_
      have hbc := big_calls 4 (peerW h.peer) W (by omega) hpl
      rw [BP ()] at hbc
      refine hbc.mono ?_
      rintro e w' ⟨A, c, rfl, ho, hn⟩
      exact ⟨_, rfl, γ, hn, trivial, A, c, rfl, (big_bytes (w := W) ho).1, (big_bytes (w := W) ho).2⟩
    · refine owes_plainG rfl fun dn a W γ hT hdn hdp hJ hf hd => ?_
      have e3 := hf 3 rfl
      exact step_val (w' := W) (by simp only [execOp]; go_simp) ⟨γ, newT_refl _ _, trivial, rfl⟩
    · refine owes_plainG rfl fun dn a W γ hT hdn hdp hJ hf hd => ?_
      obtain ⟨v5, d5, rfl⟩ := hd 5 rfl
      exact step_val (w' := W) (by simp only [execOp]; go_simp) ⟨γ, newT_refl _ _, trivial, rfl⟩
    · refine owes_plainG rfl fun dn a W γ hT hdn hdp hJ hf hd => ?_
      obtain ⟨v4, d4, A4, c4, rfl, r4, k4⟩ := hd 4 rfl
      obtain ⟨v6, d6, rfl⟩ := hd 6 rfl
      have hb1 := b1.out.below (newT_nm hT)
      refine step_val (w' := W.alloc (.cells #[.slice A4 (be 4 (peerN h.peer)).length c4, .slice (some ⟨w.heap.size + 1, 5, none⟩) 16 16] 25)) (v := .slice (some ⟨W.heap.size, 0, none⟩) 2 2) (by simp only [execOp]; go_simp) ⟨γ, NewMem.alloc _ _, trivial, _, _, rfl, ?_, Nat.le_refl _⟩
      exact rdl_two_eq (F := fun _ => True) 25 r4 k4 ((rd_blk_at hb1 5 _ (hxr ())).mono fun _ _ _ => trivial) (by rw [hrl ()]; exact Nat.le_refl _) rfl rfl (hrl ()).symm
    · refine owes_plainG rfl fun dn a W γ hT hdn hdp hJ hf hd => ?_
      obtain ⟨v0, d0, rfl⟩ := hd 0 rfl
      obtain ⟨v15, d15, A15, c15, rfl, r15, k15⟩ := hd 7 rfl
      refine step_call (w' := W) (f := 18) (args := #[.agg (bc key).toArray, .string tHel, .slice A15 2 c15]) (by simp only [execOp]; go_simp; rfl) ?_
      refine (rmark_calls key (HK ()) tHel (by decide) A15 [be 4 (peerN h.peer), h.rnd] c15 W (fun _ => True) r15 k15 ((HG.out.below n1).below (newT_nm hT)) (by simp [be_length, hrl ()]) (by simp)).mono ?_
      rintro e w' ⟨rfl, hb⟩
      exact ⟨_, rfl, γ, hb, trivial, by rw [HZ ()]; show _ = Value.agg (bc (helF key h.peer h.rnd)).toArray; unfold helF; rw [show [be 4 (peerN h.peer), h.rnd].flatten = be 4 (peerN h.peer) ++ h.rnd from by simp]⟩
  · intro o a W γ ho hT hf hs
    obtain ⟨v16, d16, rfl⟩ := hs 8 (by omega)
    have e6 := hf 4 rfl
    have HZS : (bc z).toArray.size = 16 := by rw [List.size_toArray, bc_length, HZL ()]
    obtain ⟨o', ho', hop⟩ : ∃ o', o = o' ∧ o'.op = .store 24 (.tmp 4) (.tmp 13) := ⟨_, Option.some.inj (ho.symm.trans rfl), rfl⟩
    subst ho'
    exact fun K hK => wp_store_row 24 _ _ hop (w.heap.size + 2) _ ((eval_slot _ 4).trans e6) ((eval_slot _ 13).trans d16) _ _ (b3.out.below (newT_nm hT)) (by rw [HZS]; kernel_rfl) (by rw [HZS]; rfl) (bc_all _) (hK undef _ rfl)
  · rintro vs W γ W' hT hp rfl
    have hN := newT_nm hT
    have hZS := fun _ : Unit => (show (bc z).toArray.size = 16 by rw [List.size_toArray, bc_length, HZL ()])
    simp only [laid, Nat.reduceAdd]
    go_wp2_with fail
    refine bodyPost_ret (results_cell_row rfl _ _ (w.heap.size + 2) 24 (bc z).toArray (0, 0) _ rfl ((b3.out.below hN).setRow _) Tryd.underlying24 rfl (by rw [hZS ()]; kernel_rfl)) rfl ?_
    exact ⟨by rw [HZ ()], below_setRow_own (NewMem.trans _ _ _ n1 hN) (by omega) _⟩

set_option maxHeartbeats 4000000 in
theorem ramark_calls (key : List UInt8) (hk : key.length = 32) (h p : PK) (hh : h.ok) (hp : p.ok) (w : World) (hG : Glb w) :
    Calls Tryd.prog 34 #[.agg (bc key).toArray, .agg h.X, .agg p.X] w fun e w' => e = .returned (.agg (bc (ansF key h p)).toArray) ∧ Below w.heap.size w w' := by
  have HG := Lib.hid hG
  have HK := fun _ : Unit => hk
  have h1 := h.x1
  have p2 := p.x2
  have p3 := p.x3
  have hxr := fun _ : Unit => PK.xr hh
  have pxr := fun _ : Unit => PK.xr hp
  have hrl := fun _ : Unit => hh.rnd
  have prl := fun _ : Unit => hp.rnd
  have hsl := hp.ses
  have hel := hp.ep
  obtain ⟨z, hz⟩ : ∃ z, z = ansF key h p := ⟨_, rfl⟩
  have hzl : z.length = 16 := by rw [hz]; exact ansF_length _ _ _
  have HZ := fun _ : Unit => hz
  have HZL := fun _ : Unit => hzl
  have hpn := peerW_eq h.peer
  have hpl := peerW_lt h.peer
  have BP := fun _ : Unit => be_peer h.peer
  obtain ⟨X, hX⟩ : ∃ X, X = h.X := ⟨_, rfl⟩
  obtain ⟨Y, hY⟩ : ∃ Y, Y = p.X := ⟨_, rfl⟩
  rw [← hX] at h1 hxr ⊢
  rw [← hY] at p2 p3 pxr ⊢
  clear hG hk hz hzl hh hp hX hY
  go_enter Tryd.func34, Tryd.ntmps34
  go_wp2_with fail
  generalize hw1 : World.alloc (World.alloc (World.alloc (World.alloc w _) _) _) _ = w1
  have b0 : Hid (Blk w1 w.heap.size 31 (bc key).toArray) := by show Blk _ _ _ _; rw [← hw1]; exact (((Blk.new _ _ _).alloc _).alloc _).alloc _
  have b1 : Hid (Blk w1 (w.heap.size + 1) 27 X) := by show Blk _ _ _ _; rw [← hw1]; exact ((Blk.newAt _ _ (by simp)).alloc _).alloc _
  have b2 : Hid (Blk w1 (w.heap.size + 2) 27 Y) := by show Blk _ _ _ _; rw [← hw1]; exact (Blk.newAt _ _ (by simp)).alloc _
  have b3 : Hid (Blk w1 (w.heap.size + 3) 24 (bc (List.replicate 16 0)).toArray) := by show Blk _ _ _ _; rw [← hw1, z16]; exact Blk.newAt _ _ (by simp)
  have n1 : NewMem w w1 := by rw [← hw1]; exact (((NewMem.alloc _ _).more _).more _).more _
  clear hw1
  refine region_sink (T0 := newT) newT_trans newT_refl () 18 (fun W γ W' => W' = W.setRow (w.heap.size + 3) (bc z).toArray) noJ trivial
    [.is (.agg (bc key).toArray), .is (.pointer (some ⟨w.heap.size + 1, 1, none⟩)), .is (.int .i64 h.peer), .is (.int .u64 (peerW h.peer : Int)), .bytesN (be 4 (peerN h.peer)), .is (.pointer (some ⟨w.heap.size + 1, 5, none⟩)), .is (.slice (some ⟨w.heap.size + 1, 5, none⟩) 16 16), .is (.pointer (some ⟨w.heap.size + 2, 2, none⟩)), .is (.int .u64 (p.ses : Int)), .bytesN (be 8 p.ses), .is (.pointer (some ⟨w.heap.size + 2, 3, none⟩)), .is (.int .u32 (p.ep : Int)), .is (.int .u64 (p.ep : Int)), .bytesN (be 4 p.ep), .is (.pointer (some ⟨w.heap.size + 2, 5, none⟩)), .is (.slice (some ⟨w.heap.size + 2, 5, none⟩) 16 16), .listsN [be 4 (peerN h.peer), h.rnd, be 8 p.ses, be 4 p.ep, p.rnd], .is (.agg (bc z).toArray)] (by kernel_rfl) (by kernel_rfl) (by kernel_rfl) (by kernel_rfl) ?_ ?_ ?_
  · refine ⟨?_, ?_, ?_, ?_, ?_, ?_, ?_, ?_, ?_, ?_, ?_, ?_, ?_, ?_, ?_, ?_, ?_, ?_, trivial⟩
    · refine owes_plainG rfl fun dn a W γ hT hdn hdp hJ hf hd => ?_
      have e3 := hf 3 rfl
      have hb := b0.out.below (newT_nm hT)
      exact step_load_row 31 _ rfl ((eval_slot _ 3).trans e3) hb Tryd.underlying31 rfl (by rw [List.size_toArray, bc_length, HK ()]; kernel_rfl) ⟨γ, newT_refl _ _, trivial, rfl⟩
    · refine owes_plainG rfl fun dn a W γ hT hdn hdp hJ hf hd => ?_
      have e4 := hf 4 rfl
      exact step_val (w' := W) (by simp only [execOp]; go_simp) ⟨γ, newT_refl _ _, trivial, rfl⟩
    · refine owes_plainG rfl fun dn a W γ hT hdn hdp hJ hf hd => ?_
      obtain ⟨v1, d1, rfl⟩ := hd 1 rfl
      have hc := ((b1.out.below (newT_nm hT)).cell 1).trans h1
      exact step_val (w' := W) (by simp only [execOp]; go_simp) ⟨γ, newT_refl _ _, trivial, rfl⟩
    · refine owes_plainG rfl fun dn a W γ hT hdn hdp hJ hf hd => ?_
      obtain ⟨v2, d2, rfl⟩ := hd 2 rfl
      have hwr : IntKind.u64.wrap h.peer = (peerW h.peer : Int) := by rw [hpn]; rfl
      exact step_val (w' := W) (by simp only [execOp]; go_simp) ⟨γ, newT_refl _ _, trivial, rfl⟩
    · refine owes_plainG rfl fun dn a W γ hT hdn hdp hJ hf hd => ?_
      obtain ⟨v3, d3, rfl⟩ := hd 3 rfl
      refine step_call (w' := W) (f := 33) (args := #[.int .u64 (peerW h.peer : Int), .int .i64 4]) (by simp only [execOp]; go_simp) ?_
      have hbc := big_calls 4 (peerW h.peer) W (by omega) hpl
      rw [BP ()] at hbc
      refine hbc.mono ?_
      rintro e w' ⟨A, c, rfl, ho, hn⟩
      exact ⟨_, rfl, γ, hn, trivial, A, c, rfl, (big_bytes (w := W) ho).1, (big_bytes (w := W) ho).2⟩
    · refine owes_plainG rfl fun dn a W γ hT hdn hdp hJ hf hd => ?_
      have e4 := hf 4 rfl
      exact step_val (w' := W) (by simp only [execOp]; go_simp) ⟨γ, newT_refl _ _, trivial, rfl⟩
    · refine owes_plainG rfl fun dn a W γ hT hdn hdp hJ hf hd => ?_
      obtain ⟨v5, d5, rfl⟩ := hd 5 rfl
      exact step_val (w' := W) (by simp only [execOp]; go_simp) ⟨γ, newT_refl _ _, trivial, rfl⟩
    · refine owes_plainG rfl fun dn a W γ hT hdn hdp hJ hf hd => ?_
      have e5 := hf 5 rfl
      exact step_val (w' := W) (by simp only [execOp]; go_simp) ⟨γ, newT_refl _ _, trivial, rfl⟩
    · refine owes_plainG rfl fun dn a W γ hT hdn hdp hJ hf hd => ?_
      obtain ⟨v7, d7, rfl⟩ := hd 7 rfl
      have hc := ((b2.out.below (newT_nm hT)).cell 2).trans p2
      exact step_val (w' := W) (by simp only [execOp]; go_simp) ⟨γ, newT_refl _ _, trivial, rfl⟩
    · refine owes_plainG rfl fun dn a W γ hT hdn hdp hJ hf hd => ?_
      obtain ⟨v8, d8, rfl⟩ := hd 8 rfl
      refine step_call (w' := W) (f := 33) (args := #[.int .u64 (p.ses : Int), .int .i64 8]) (by simp only [execOp]; go_simp) ((big_calls 8 p.ses W (by omega) hsl).mono ?_)
      rintro e w' ⟨A, c, rfl, ho, hn⟩
      exact ⟨_, rfl, γ, hn, trivial, A, c, rfl, (big_bytes (w := W) ho).1, (big_bytes (w := W) ho).2⟩
    · refine owes_plainG rfl fun dn a W γ hT hdn hdp hJ hf hd => ?_
      have e5 := hf 5 rfl
      exact step_val (w' := W) (by simp only [execOp]; go_simp) ⟨γ, newT_refl _ _, trivial, rfl⟩
    · refine owes_plainG rfl fun dn a W γ hT hdn hdp hJ hf hd => ?_
      obtain ⟨v10, d10, rfl⟩ := hd 10 rfl
      have hc := ((b2.out.below (newT_nm hT)).cell 3).trans p3
      exact step_val (w' := W) (by simp only [execOp]; go_simp) ⟨γ, newT_refl _ _, trivial, rfl⟩
    · refine owes_plainG rfl fun dn a W γ hT hdn hdp hJ hf hd => ?_
      obtain ⟨v11, d11, rfl⟩ := hd 11 rfl
      have hwr : IntKind.u64.wrap (p.ep : Int) = (p.ep : Int) := by show ((p.ep : Int) % 18446744073709551616) = _; omega
      exact step_val (w' := W) (by simp only [execOp]; go_simp) ⟨γ, newT_refl _ _, trivial, rfl⟩
    · refine owes_plainG rfl fun dn a W γ hT hdn hdp hJ hf hd => ?_
      obtain ⟨v12, d12, rfl⟩ := hd 12 rfl
      refine step_call (w' := W) (f := 33) (args := #[.int .u64 (p.ep : Int), .int .i64 4]) (by simp only [execOp]; go_simp) ((big_calls 4 p.ep W (by omega) (by omega)).mono ?_)
      rintro e w' ⟨A, c, rfl, ho, hn⟩
      exact ⟨_, rfl, γ, hn, trivial, A, c, rfl, (big_bytes (w := W) ho).1, (big_bytes (w := W) ho).2⟩
    · refine owes_plainG rfl fun dn a W γ hT hdn hdp hJ hf hd => ?_
      have e5 := hf 5 rfl
      exact step_val (w' := W) (by simp only [execOp]; go_simp) ⟨γ, newT_refl _ _, trivial, rfl⟩
    · refine owes_plainG rfl fun dn a W γ hT hdn hdp hJ hf hd => ?_
      obtain ⟨v14, d14, rfl⟩ := hd 14 rfl
      exact step_val (w' := W) (by simp only [execOp]; go_simp) ⟨γ, newT_refl _ _, trivial, rfl⟩
    · refine owes_plainG rfl fun dn a W γ hT hdn hdp hJ hf hd => ?_
      obtain ⟨v4, d4, A4, c4, rfl, r4, k4⟩ := hd 4 rfl
      obtain ⟨v6, d6, rfl⟩ := hd 6 rfl
      obtain ⟨v9, d9, A9, c9, rfl, r9, k9⟩ := hd 9 rfl
      obtain ⟨v13, d13, A12, c12, rfl, r12, k12⟩ := hd 13 rfl
      obtain ⟨v15, d15, rfl⟩ := hd 15 rfl
      have hb1 := b1.out.below (newT_nm hT)
      have hb2 := b2.out.below (newT_nm hT)
      refine step_val (w' := W.alloc (.cells #[.slice A4 (be 4 (peerN h.peer)).length c4, .slice (some ⟨w.heap.size + 1, 5, none⟩) 16 16, .slice A9 (be 8 p.ses).length c9, .slice A12 (be 4 p.ep).length c12, .slice (some ⟨w.heap.size + 2, 5, none⟩) 16 16] 25)) (v := .slice (some ⟨W.heap.size, 0, none⟩) 5 5) (by simp only [execOp]; go_simp) ⟨γ, NewMem.alloc _ _, trivial, _, _, rfl, ?_, Nat.le_refl _⟩
      exact rdl_five 25 r4 k4 (rd_blk_at hb1 5 _ (hxr ())) (by rw [hrl ()]; exact Nat.le_refl _) r9 k9 r12 k12 (rd_blk_at hb2 5 _ (pxr ())) (by rw [prl ()]; exact Nat.le_refl _) rfl (hrl ()).symm rfl rfl (prl ()).symm
    · refine owes_plainG rfl fun dn a W γ hT hdn hdp hJ hf hd => ?_
      obtain ⟨v0, d0, rfl⟩ := hd 0 rfl
      obtain ⟨v15, d15, A15, c15, rfl, r15, k15⟩ := hd 16 rfl
      refine step_call (w' := W) (f := 18) (args := #[.agg (bc key).toArray, .string tAns, .slice A15 5 c15]) (by simp only [execOp]; go_simp; rfl) ?_
      refine (rmark_calls key (HK ()) tAns (by decide) A15 [be 4 (peerN h.peer), h.rnd, be 8 p.ses, be 4 p.ep, p.rnd] c15 W (fun _ => True) r15 k15 ((HG.out.below n1).below (newT_nm hT)) (by simp [be_length, hrl (), prl ()]) (by simp)).mono ?_
      rintro e w' ⟨rfl, hb⟩
      exact ⟨_, rfl, γ, hb, trivial, by rw [HZ ()]; show _ = Value.agg (bc (ansF key h p)).toArray; unfold ansF; rw [show [be 4 (peerN h.peer), h.rnd, be 8 p.ses, be 4 p.ep, p.rnd].flatten = be 4 (peerN h.peer) ++ (h.rnd ++ (be 8 p.ses ++ (be 4 p.ep ++ p.rnd))) from by simp]⟩
  · intro o a W γ ho hT hf hs
    obtain ⟨v16, d16, rfl⟩ := hs 17 (by omega)
    have e6 := hf 6 rfl
    have HZS : (bc z).toArray.size = 16 := by rw [List.size_toArray, bc_length, HZL ()]
    obtain ⟨o', ho', hop⟩ : ∃ o', o = o' ∧ o'.op = .store 24 (.tmp 6) (.tmp 24) := ⟨_, Option.some.inj (ho.symm.trans rfl), rfl⟩
    subst ho'
    exact fun K hK => wp_store_row 24 _ _ hop (w.heap.size + 3) _ ((eval_slot _ 6).trans e6) ((eval_slot _ 24).trans d16) _ _ (b3.out.below (newT_nm hT)) (by rw [HZS]; kernel_rfl) (by rw [HZS]; rfl) (bc_all _) (hK undef _ rfl)
  · rintro vs W γ W' hT hp rfl
    have hN := newT_nm hT
    have hZS := fun _ : Unit => (show (bc z).toArray.size = 16 by rw [List.size_toArray, bc_length, HZL ()])
    simp only [laid, Nat.reduceAdd]
    go_wp2_with fail
    refine bodyPost_ret (results_cell_row rfl _ _ (w.heap.size + 3) 24 (bc z).toArray (0, 0) _ rfl ((b3.out.below hN).setRow _) Tryd.underlying24 rfl (by rw [hZS ()]; kernel_rfl)) rfl ?_
    exact ⟨by rw [HZ ()], below_setRow_own (NewMem.trans _ _ _ n1 hN) (by omega) _⟩
end Go.Proofs.YtbhaekdfpfncnaaDoor

namespace Go.Proofs.YtbhaekdfpfncnaaDoor
set_option linter.unusedVariables false
set_option linter.unusedSimpArgs false
open Go.RowKit

set_option maxHeartbeats 4000000 in
theorem rhello_calls (key : List UInt8) (hk : key.length = 32) (n : Int) (hn : -9223372036854775808 ≤ n ∧ n ≤ 9223372036854775807) (rnd : List UInt8) (hr : rnd.length = 16) (w : World) (hG : Glb w) :
    Calls Tryd.prog 14 #[.agg (bc key).toArray, .int .i64 n, .agg (bc rnd).toArray] w fun e w' => e = .returned (.tuple #[.agg (helP key n rnd).X, .int .i64 (helE n rnd)]) ∧ Below w.heap.size w w' := by
  have HG := Lib.hid hG
  have HK := fun _ : Unit => hk
  have HR := fun _ : Unit => hr
  have HOK := fun _ : Unit => hPK_ok hn hr z16_len
  have HB := fun _ : Unit => built_h n rnd hr
  have hbz := fun (w : World) => run_build (P := Tryd.prog) w 27 #[] zPK.X built_z
  have hcm := fun (w : World) (o o2 : Obj) => cells_mid w o o2 (bc rnd) 24
  obtain ⟨X, hX⟩ : ∃ X, X = (hPK n rnd Z16).X := ⟨_, rfl⟩
  have HX := fun _ : Unit => hX
  have hXs : X.size = 38 := by rw [hX]; exact PK.size (HOK ())
  have hX1 : X.all (·.oneCell') = true := by rw [hX]; exact PK.one _
  have HXS := fun _ : Unit => hXs
  have HX1 := fun _ : Unit => hX1
  rw [← hX] at HB
  obtain ⟨pp, hpp⟩ : ∃ pp, pp = helP key n rnd := ⟨_, rfl⟩
  obtain ⟨ee, hee⟩ : ∃ ee, ee = helE n rnd := ⟨_, rfl⟩
  rw [← hpp, ← hee]
  have HPP := fun _ : Unit => hpp
  have HEE := fun _ : Unit => hee
  clear hG hk hr hn hX hXs hX1 hpp hee
  go_enter Tryd.func14, Tryd.ntmps14
  go_wp2_with (first | (refine at_slot 10 ?_; refine wpList_load_rd rfl 24 _ rfl ⟨w.heap.size + 1, 0, none⟩ rfl (bc rnd) _ (hcm w _ _) Tryd.underlying24 rfl (by rw [bc_length, HR ()]; kernel_rfl) ?_)  | (refine at_slot 11 ?_; refine wpList_build_to rfl 27 _ rfl X (HB ()) ?_) | (refine at_store 27 ?_; refine wpList_store_row rfl 27 _ _ rfl (w.heap.size + 3) X rfl rfl _ _ (Blk.newAt _ _ (by simp)) (by rw [HXS ()]; kernel_rfl) (by rw [HXS ()]; rfl) (HX1 ()) ?_) | (refine at_slot 12 ?_; refine wpList_load_row rfl 27 _ rfl (w.heap.size + 3) rfl _ X (0, 0) _ (Blk.setRow (cs := zPK.X) (Blk.newAt (w := World.alloc (World.alloc (World.alloc w _) _) _) _ zPK.X (by simp)) _) Tryd.underlying27 rfl (by rw [HXS ()]; kernel_rfl) ?_))
  generalize hw1 : World.setRow _ _ _ = w1
  have b0 : Hid (Blk w1 w.heap.size 31 (bc key).toArray) := by show Blk _ _ _ _; rw [← hw1]; exact ((((Blk.new _ _ _).alloc _).alloc _).alloc _).setRow_far (by omega) _
  have b1 : Hid (Blk w1 (w.heap.size + 1) 24 (bc rnd).toArray) := by show Blk _ _ _ _; rw [← hw1]; exact (((Blk.newAt _ _ (by simp)).alloc _).alloc _).setRow_far (by omega) _
  have b2 : Hid (Blk w1 (w.heap.size + 2) 27 zPK.X) := by show Blk _ _ _ _; rw [← hw1]; exact ((Blk.newAt _ _ (by simp)).alloc _).setRow_far (by omega) _
  have b3 : Hid (Blk w1 (w.heap.size + 3) 27 X) := by show Blk _ _ _ _; rw [← hw1]; exact Blk.setRow (cs := zPK.X) (Blk.newAt (w := World.alloc (World.alloc (World.alloc w _) _) _) _ zPK.X (by simp)) _
  have n1 : NewMem w w1 := by rw [← hw1]; exact below_setRow_own ((((NewMem.alloc _ _).more _).more _).more _) (by omega) _
  clear hw1 hcm HB
  rw [HX ()]
  refine (rchk_calls _ (HOK ()) _).mono ?_
  rw [← HX ()]
  rintro e w2 ⟨rfl, hb2⟩
  have b0 := Lib.hid (b0.out.below hb2)
  have b1 := Lib.hid (b1.out.below hb2)
  have b2 := Lib.hid (b2.out.below hb2)
  have b3 := Lib.hid (b3.out.below hb2)
  have n2 : NewMem w w2 := NewMem.trans _ _ _ n1 hb2
  clear n1 hb2
  cases hcb : chkB (hPK n rnd Z16)
  · have e1 : pp = zPK := by rw [HPP ()]; unfold helP; rw [hcb]; rfl
    have e2 : ee = 2 := by rw [HEE ()]; unfold helE; rw [hcb]; rfl
    have E1 := fun _ : Unit => e1
    have E2 := fun _ : Unit => e2
    clear hcb e1 e2
    simp only [resN]
    go_wp2_with (first | (refine wpList_store_row rfl 27 _ _ rfl (w.heap.size + 2) zPK.X rfl rfl _ _ b2.out (by kernel_rfl) rfl (PK.one _) ?_))
    refine bodyPost_ret (run_results2 rfl _ _ (w.heap.size + 2) 27 zPK.X _ rfl (b2.out.setRow _) Tryd.underlying27 rfl (by kernel_rfl)) rfl ?_
    exact ⟨by rw [E1 (), E2 ()]; rfl, below_setRow_own n2 (by omega) _⟩
  obtain ⟨z, hz⟩ : ∃ z, z = helF key n rnd := ⟨_, rfl⟩
  have hzl : z.length = 16 := by rw [hz]; exact helF_length _ _ _
  have HZ := fun _ : Unit => hz
  have HZL := fun _ : Unit => hzl
  have e1 : pp = hPK n rnd z := by rw [HPP (), hz]; unfold helP; rw [hcb]; rfl
  have e2 : ee = 0 := by rw [HEE ()]; unfold helE; rw [hcb]; rfl
  have hmid : midC X 21 (bc z) = pp.X := by rw [e1, HX (), mid_mark (HOK ()) z hzl]; rfl
  have hps : pp.X.size = 38 := by rw [← hmid]; simp [midC, HXS (), hzl]
  have HMID := fun _ : Unit => hmid
  have HPS := fun _ : Unit => hps
  have hp1 : pp.X.all (·.oneCell') = true := PK.one _
  have HP1 := fun _ : Unit => hp1
  obtain ⟨Y, hY⟩ : ∃ Y, Y = pp.X := ⟨_, rfl⟩
  rw [← hY] at HMID HPS HP1
  have E2 := fun _ : Unit => e2
  have HY := fun _ : Unit => hY
  clear hcb e1 e2 hz hzl hmid hps hp1 hY
  simp only [resN]
  go_wp2_with (first | (refine at_slot 16 ?_; refine wpList_load_row rfl 31 _ rfl w.heap.size rfl _ (bc key).toArray (0, 0) _ b0.out Tryd.underlying31 rfl (by rw [List.size_toArray, bc_length, HK ()]; kernel_rfl) ?_) | (refine at_slot 17 ?_; refine wpList_load_row rfl 27 _ rfl (w.heap.size + 3) rfl _ X (0, 0) _ b3.out Tryd.underlying27 rfl (by rw [HXS ()]; kernel_rfl) ?_))
  rw [HX ()]
  refine (rhmark_calls key (HK ()) (hPK n rnd Z16) (HOK ()) _ (HG.out.below n2)).mono ?_
  rw [← HX (), show helF key (hPK n rnd Z16).peer (hPK n rnd Z16).rnd = z from (HZ ()).symm]
  rintro e w3 ⟨rfl, hb3⟩
  have b2 := Lib.hid (b2.out.below hb3)
  have b3 := Lib.hid (b3.out.below hb3)
  have n3 : NewMem w w3 := NewMem.trans _ _ _ n2 hb3
  have ZBL : Unit → (bc z).length = 16 := fun _ => by rw [bc_length, HZL ()]
  clear n2 hb3
  go_wp2_with (first | (refine at_store 24 ?_; refine wpList_store_at rfl 24 _ _ rfl (w.heap.size + 3) 21 (bc z) rfl rfl _ _ b3.out (by rw [ZBL (), HXS ()]; decide) (bc_one z) (by rw [ZBL ()]; kernel_rfl) ?_; rw [HMID ()]) | (refine at_slot 20 ?_; refine wpList_load_row rfl 27 _ rfl (w.heap.size + 3) rfl _ Y (0, 0) _ (b3.out.setRow _) Tryd.underlying27 rfl (by rw [HPS ()]; kernel_rfl) ?_) | (refine at_store 27 ?_; refine wpList_store_row rfl 27 _ _ rfl (w.heap.size + 2) Y rfl rfl _ _ (b2.out.setRow_far (by omega) _) (by rw [HPS ()]; kernel_rfl) (by rw [HPS ()]; rfl) (HP1 ()) ?_))
  refine bodyPost_ret (run_results2 rfl _ _ (w.heap.size + 2) 27 Y _ rfl ((b2.out.setRow_far (by omega) _).setRow _) Tryd.underlying27 rfl (by rw [HPS ()]; kernel_rfl)) rfl ?_
  exact ⟨by rw [E2 (), ← HY ()]; rfl, below_setRow_own (below_setRow_own n3 (by omega) _) (by omega) _⟩

set_option maxHeartbeats 4000000 in
theorem rchello_calls (key : List UInt8) (hk : key.length = 32) (p : PK) (hp : p.ok) (w : World) (hG : Glb w) :
    Calls Tryd.prog 16 #[.agg (bc key).toArray, .agg p.X] w fun e w' => e = .returned (.int .i64 (chN key p)) ∧ Below w.heap.size w w' := by
  have HG := Lib.hid hG
  have HK := fun _ : Unit => hk
  have HP := fun _ : Unit => hp
  have hsz := PK.size hp
  have HSZ := fun _ : Unit => hsz
  have h0 := p.x0
  have h1 := p.x1
  have hxr := fun _ : Unit => PK.xr hp
  have hxm := fun _ : Unit => PK.xm hp
  have hrl := fun _ : Unit => hp.rnd
  have hml := fun _ : Unit => hp.mrk
  obtain ⟨z, hz⟩ : ∃ z, z = helF key p.peer p.rnd := ⟨_, rfl⟩
  have hzl : z.length = 16 := by rw [hz]; exact helF_length _ _ _
  have HZ := fun _ : Unit => hz
  have HZL := fun _ : Unit => hzl
  obtain ⟨X, hX⟩ : ∃ X, X = p.X := ⟨_, rfl⟩
  have HX := fun _ : Unit => hX
  rw [← hX] at h0 h1 hxr hxm HSZ ⊢
  clear hG hk hz hzl hp hX hsz
  go_enter Tryd.func16, Tryd.ntmps16
  go_wp2_with (refine at_slot 5 ?_; refine wpList_load_row rfl 27 _ rfl (w.heap.size + 1) rfl _ X (0, 0) _ (heap_new2 w _ _ _) Tryd.underlying27 rfl (by rw [HSZ ()]; kernel_rfl) ?_)
  generalize hw1 : World.alloc (World.alloc w _) _ = w1
  have b0 : Hid (Blk w1 w.heap.size 31 (bc key).toArray) := by show Blk _ _ _ _; rw [← hw1]; exact (Blk.new _ _ _).alloc _
  have b1 : Hid (Blk w1 (w.heap.size + 1) 27 X) := by show Blk _ _ _ _; rw [← hw1]; exact Blk.newAt _ _ (by simp)
  have n1 : NewMem w w1 := by rw [← hw1]; exact (NewMem.alloc _ _).more _
  clear hw1
  rw [HX ()]
  refine (rchk_calls p (HP ()) _).mono ?_
  rw [← HX ()]
  rintro e w2 ⟨rfl, hb2⟩
  have b0 := Lib.hid (b0.out.below hb2)
  have b1 := Lib.hid (b1.out.below hb2)
  have n2 : NewMem w w2 := NewMem.trans _ _ _ n1 hb2
  clear n1 hb2
  have hch : chN key p = if chkB p then (if p.kind = 1 then (if p.mrk = z then 0 else 12) else 2) else 2 := by rw [HZ ()]; rfl
  have HCH := fun _ : Unit => hch
  clear hch
  cases hcb : chkB p
  · have HCB := fun _ : Unit => hcb
    clear hcb
    simp only [resN]
    go_wp2_with fail
    go_ret
    exact ⟨by rw [HCH (), HCB ()]; rfl, n2⟩
  have HCB := fun _ : Unit => hcb
  clear hcb
  simp only [resN]
  by_cases hk1 : p.kind = 1
  rotate_left
  · have HK1 := fun _ : Unit => hk1
    have hq := (b1.out.cell 0).trans h0
    go_wp2_with fail
    go_ret
    exact ⟨by rw [HCH (), HCB (), if_pos rfl, if_neg (HK1 ())]; rfl, n2⟩
  have HK1 := fun _ : Unit => hk1
  rw [hk1] at h0
  have hq := (b1.out.cell 0).trans h0
  clear hk1
  go_wp2_with fail
  clear hq
  refine region_toG (T := newT) (J := noJ) newT_trans newT_refl () (fun vs W γ => vs 5 = .bool (!decide (p.mrk = z))) (by kernel_rfl) (by kernel_rfl) (by kernel_rfl) trivial ⟨prOfG
    ([.is (.pointer (some ⟨w.heap.size + 1, 21, none⟩)), .is (.agg (bc p.mrk).toArray), .is (.agg (bc key).toArray), .is (.agg X), .is (.agg (bc z).toArray), .is (.bool (!decide (p.mrk = z)))] : List (PrG newT)), prOfG_st _, no_none (by kernel_rfl), ⟨?_, ?_, ?_, ?_, ?_, ?_, trivial⟩, fun vs W γ hT hJ hp => ?_⟩ ?_
  · refine owes_plainG rfl fun dn a W γ hT hdn hdp hJ hf hd => ?_
    have e3 := hf 3 rfl
    exact step_val (w' := W) (by simp only [execOp]; go_simp) ⟨γ, newT_refl _ _, trivial, rfl⟩
  · refine owes_plainG rfl fun dn a W γ hT hdn hdp hJ hf hd => ?_
    obtain ⟨v0, d0, rfl⟩ := hd 0 rfl
    have hb := b1.out.below (newT_nm hT)
    exact step_load_at 24 _ rfl ((eval_slot _ 13).trans d0) (rd_blk_at hb 21 _ (hxm ())) Tryd.underlying24 rfl (by rw [bc_length, hml ()]; kernel_rfl) ⟨γ, newT_refl _ _, trivial, rfl⟩
  · refine owes_plainG rfl fun dn a W γ hT hdn hdp hJ hf hd => ?_
    have e2 := hf 2 rfl
    have hb := b0.out.below (newT_nm hT)
    exact step_load_row 31 _ rfl ((eval_slot _ 2).trans e2) hb Tryd.underlying31 rfl (by rw [List.size_toArray, bc_length, HK ()]; kernel_rfl) ⟨γ, newT_refl _ _, trivial, rfl⟩
  · refine owes_plainG rfl fun dn a W γ hT hdn hdp hJ hf hd => ?_
    have e3 := hf 3 rfl
    have hb := b1.out.below (newT_nm hT)
    exact step_load_row 27 _ rfl ((eval_slot _ 3).trans e3) hb Tryd.underlying27 rfl (by rw [HSZ ()]; kernel_rfl) ⟨γ, newT_refl _ _, trivial, rfl⟩
  · refine owes_plainG rfl fun dn a W γ hT hdn hdp hJ hf hd => ?_
    obtain ⟨v2, d2, rfl⟩ := hd 2 rfl
    obtain ⟨v3, d3, rfl⟩ := hd 3 rfl
    refine step_call (w' := W) (f := 27) (args := #[.agg (bc key).toArray, .agg X]) (by simp only [execOp]; go_simp) ?_
    rw [HX ()]
    refine (rhmark_calls key (HK ()) p (HP ()) W ((HG.out.below n2).below (newT_nm hT))).mono ?_
    rintro e w' ⟨rfl, hb⟩
    exact ⟨_, rfl, γ, hb, trivial, by rw [HZ ()]; rfl⟩
  · refine owes_plainG rfl fun dn a W γ hT hdn hdp hJ hf hd => ?_
    obtain ⟨v1, d1, rfl⟩ := hd 1 rfl
    obtain ⟨v4, d4, rfl⟩ := hd 4 rfl
    have hq := eq16 W p.mrk z (hml ()) (HZL ())
    exact step_val (w' := W) (by simp only [execOp]; go_simp) ⟨γ, newT_refl _ _, trivial, rfl⟩
  · exact hp 5 rfl
  · intro vs W γ hT hvs
    have n3 : NewMem w W := NewMem.trans _ _ _ n2 (newT_nm hT)
    simp only [laid, Nat.reduceAdd, hvs]
    clear hvs hT
    by_cases hm : p.mrk = z
    · have HM := fun _ : Unit => hm
      rw [decide_eq_true hm]
      clear hm
      simp only [Bool.not_true]
      go_wp2_with fail
      go_ret
      exact ⟨by rw [HCH (), HCB (), if_pos rfl, if_pos (HK1 ()), if_pos (HM ())]; rfl, n3⟩
    · have HM := fun _ : Unit => hm
      rw [decide_eq_false hm]
      clear hm
      simp only [Bool.not_false]
      go_wp2_with fail
      go_ret
      exact ⟨by rw [HCH (), HCB (), if_pos rfl, if_pos (HK1 ()), if_neg (HM ())]; rfl, n3⟩
end Go.Proofs.YtbhaekdfpfncnaaDoor

namespace Go.Proofs.YtbhaekdfpfncnaaDoor
set_option linter.unusedVariables false
set_option linter.unusedSimpArgs false
open Go.RowKit

set_option maxHeartbeats 4000000 in
theorem rsecret_calls (key : List UInt8) (hk : key.length = 32) (h p : PK) (hh : h.ok) (hp : p.ok) (w : World) (hG : Glb w) :
    Calls Tryd.prog 20 #[.agg (bc key).toArray, .agg h.X, .agg p.X] w fun e w' => e = .returned (.agg (bc (secF key h p)).toArray) ∧ Below w.heap.size w w' := by
  have HG := Lib.hid hG
  have HK := fun _ : Unit => hk
  have p2 := p.x2
  have hxr := fun _ : Unit => PK.xr hh
  have pxr := fun _ : Unit => PK.xr hp
  have hrl := fun _ : Unit => hh.rnd
  have prl := fun _ : Unit => hp.rnd
  have hsl := hp.ses
  obtain ⟨i0, hi0, hz0, hz1, hz2⟩ := info_parts info_u8'
  obtain ⟨z, hz⟩ : ∃ z, z = secF key h p := ⟨_, rfl⟩
  have hzl : z.length = 32 := by rw [hz]; exact secF_length _ _ _
  have HZ := fun _ : Unit => hz
  have HZL := fun _ : Unit => hzl
  obtain ⟨X, hX⟩ : ∃ X, X = h.X := ⟨_, rfl⟩
  obtain ⟨Y, hY⟩ : ∃ Y, Y = p.X := ⟨_, rfl⟩
  rw [← hX] at hxr ⊢
  rw [← hY] at p2 pxr ⊢
  clear hG hk hz hzl hh hp hX hY
  go_enter Tryd.func20, Tryd.ntmps20
  go_wp2_with fail
  generalize hw1 : World.alloc (World.alloc (World.alloc (World.alloc w _) _) _) _ = w1
  have b0 : Hid (Blk w1 w.heap.size 31 (bc key).toArray) := by show Blk _ _ _ _; rw [← hw1]; exact (((Blk.new _ _ _).alloc _).alloc _).alloc _
  have b1 : Hid (Blk w1 (w.heap.size + 1) 27 X) := by show Blk _ _ _ _; rw [← hw1]; exact ((Blk.newAt _ _ (by simp)).alloc _).alloc _
  have b2 : Hid (Blk w1 (w.heap.size + 2) 27 Y) := by show Blk _ _ _ _; rw [← hw1]; exact (Blk.newAt _ _ (by simp)).alloc _
  have b3 : Hid (Blk w1 (w.heap.size + 3) 31 (bc (List.replicate 32 0)).toArray) := by show Blk _ _ _ _; rw [← hw1, z32]; exact Blk.newAt _ _ (by simp)
  have n1 : NewMem w w1 := by rw [← hw1]; exact (((NewMem.alloc _ _).more _).more _).more _
  have hB : w1.heap.size = w.heap.size + 4 := by rw [← hw1]; simp
  clear hw1
  refine region_assign (T0 := newT) newT_trans newT_refl () 6 14 (fun v W γ W' => ∃ A c, v = .slice A (h.rnd ++ p.rnd).length c ∧ Rd W' (fun _ => True) A (bc (h.rnd ++ p.rnd)) ∧ (h.rnd ++ p.rnd).length ≤ c ∧ Below w1.heap.size W W') noJ trivial
    [.emptN w1.heap.size, .is (.pointer (some ⟨w.heap.size + 1, 5, none⟩)), .is (.slice (some ⟨w.heap.size + 1, 5, none⟩) 16 16), .ownN w1.heap.size h.rnd, .is (.pointer (some ⟨w.heap.size + 2, 5, none⟩)), .is (.slice (some ⟨w.heap.size + 2, 5, none⟩) 16 16)] (by kernel_rfl) (by kernel_rfl) (by kernel_rfl) (by kernel_rfl) ?_ ?_ ?_
  · refine ⟨?_, ?_, ?_, ?_, ?_, ?_, trivial⟩
    · refine owes_plainG rfl fun dn a W γ hT hdn hdp hJ hf hd => ?_
      have hsz : w1.heap.size ≤ W.heap.size := (newT_nm hT).size
      refine step_val (w' := W.alloc (.cells #[] 5)) (v := .slice (some ⟨W.heap.size, 0, none⟩) 0 0) (by simp only [execOp]; go_simp) ⟨γ, NewMem.alloc _ _, trivial, _, rfl, World.ownsRow_made W #[] 0 hsz (by decide) rfl⟩
    · refine owes_plainG rfl fun dn a W γ hT hdn hdp hJ hf hd => ?_
      have e4 := hf 4 rfl
      exact step_val (w' := W) (by simp only [execOp]; go_simp) ⟨γ, newT_refl _ _, trivial, rfl⟩
    · refine owes_plainG rfl fun dn a W γ hT hdn hdp hJ hf hd => ?_
      obtain ⟨v1, d1, rfl⟩ := hd 1 rfl
      exact step_val (w' := W) (by simp only [execOp]; go_simp) ⟨γ, newT_refl _ _, trivial, rfl⟩
    · refine owes_plainG rfl fun dn a W γ hT hdn hdp hJ hf hd => ?_
      obtain ⟨v0, d0, b, rfl, ho⟩ := hd 0 rfl
      obtain ⟨v2, d2, rfl⟩ := hd 2 rfl
      have hb1 := b1.out.below (newT_nm hT)
      have hr := rd_blk_at hb1 5 _ (hxr ())
      have hsz : w1.heap.size ≤ W.heap.size := (newT_nm hT).size
      obtain ⟨b', c', w', hrun, _, _, hnm⟩ := run_append_full (P := Tryd.prog) W 25 25 5 i0 _ Tryd.underlying25 hi0 hz0 hz1 hz2 rfl b [] (fun _ => True) (Rd.nil _ _ _) _ 16 h.rnd _ hr (by rw [hrl ()]; decide)
      obtain ⟨v', w'', hrun2, hown, _, _⟩ := run_append_rd (P := Tryd.prog) W w1.heap.size 25 25 5 i0 _ 1 Tryd.underlying25 hi0 hz0 hz1 hz2 rfl (.slice (some b) 0 0) 0 [] ho _ _ 16 (bc h.rnd) hr (bc_one _) (by rw [bc_length, hrl ()]; decide) (by rw [bc_length, hrl ()]; decide) hsz
      rw [bc_length] at hrun2 hown
      have hq := hrun.symm.trans hrun2
      injection hq with hq1 hq2
      subst hq1 hq2
      rw [hrl ()] at hrun
      exact step_val (w' := w') (v := .slice (some b') ([] ++ h.rnd).length c') (exec_append (.tmp 8) (.tmp 10) _ rfl ((eval_slot a 8).trans d0) ((eval_slot a 10).trans d2) hrun) ⟨γ, hnm, trivial, b', c', rfl, by simpa using hown⟩
    · refine owes_plainG rfl fun dn a W γ hT hdn hdp hJ hf hd => ?_
      have e5 := hf 5 rfl
      exact step_val (w' := W) (by simp only [execOp]; go_simp) ⟨γ, newT_refl _ _, trivial, rfl⟩
    · refine owes_plainG rfl fun dn a W γ hT hdn hdp hJ hf hd => ?_
      obtain ⟨v4, d4, rfl⟩ := hd 4 rfl
      exact step_val (w' := W) (by simp only [execOp]; go_simp) ⟨γ, newT_refl _ _, trivial, rfl⟩
  · intro o a W γ ho hT hf hs
    obtain ⟨hop, hty, hd3, hd5⟩ : o.op = .call { callee := .builtin .append, args := #[.tmp 11, .tmp 13], argTypes := #[25, 25] } ∧ o.type = 25 ∧ depB o 3 = true ∧ depB o 5 = true := by
      obtain ⟨o', ho', h⟩ : ∃ o', o = o' ∧ (o'.op = .call { callee := .builtin .append, args := #[.tmp 11, .tmp 13], argTypes := #[25, 25] } ∧ o'.type = 25 ∧ depB o' 3 = true ∧ depB o' 5 = true) := ⟨_, Option.some.inj (ho.symm.trans rfl), rfl, rfl, rfl, rfl⟩
      rw [ho']
      exact h
    obtain ⟨v3, d3, b, c, rfl, hown⟩ := hs 3 (by omega) hd3
    obtain ⟨v5, d5, rfl⟩ := hs 5 (by omega) hd5
    have hb2 := b2.out.below (newT_nm hT)
    have hr := rd_blk_at hb2 5 _ (pxr ())
    have hsz : w1.heap.size ≤ W.heap.size := (newT_nm hT).size
    obtain ⟨v', w', hrun, hown2, hg, hat⟩ := run_append_rd (P := Tryd.prog) W w1.heap.size 25 25 5 i0 _ 1 Tryd.underlying25 hi0 hz0 hz1 hz2 rfl _ _ _ hown _ _ 16 (bc p.rnd) hr (bc_one _) (by rw [bc_length, prl (), hrl ()]; decide) (by rw [bc_length, prl (), hrl ()]; decide) hsz
    obtain ⟨A', c', rfl, hle⟩ := own_shape hown2
    rw [bc_length, prl ()] at hrun
    refine step_val (w' := w') (exec_append (.tmp 11) (.tmp 13) _ hop ((eval_slot a 11).trans d3) ((eval_slot a 13).trans d5) (by rw [hty]; exact hrun)) ⟨A', c', by simp [prl ()], ?_, ?_, ?_⟩
    · have := Rd.of_own hown2 (by decide)
      simpa [bc] using this.mono fun _ _ _ => trivial
    · simpa using hle.1
    · refine ⟨hg.os, hg.tape, hg.output, hg.size, fun k hk => hg.block k (by omega) fun he => ?_⟩
      obtain ⟨g, cap, cur, e1, e2, _⟩ := hown.2.resolve_left fun h => by cases h.1
      injection e1 with e1
      rw [e1] at he
      simp [Value.ownBlock] at he
      omega
  · rintro vs W γ W' hT ⟨A, c, hv, hr, hc, hb⟩
    have hNW := newT_nm hT
    have hbb : Below w1.heap.size w1 W' := Below.trans hNW hb
    have b0 := Lib.hid (blk_below b0.out hbb (by omega))
    have b2 := Lib.hid (blk_below b2.out hbb (by omega))
    have b3 := Lib.hid (blk_below b3.out hbb (by omega))
    have HG := Lib.hid ((HG.out.below n1).below hbb)
    have n2 : NewMem w W' := below_then n1 hbb (by omega)
    have hR := Lib.hid hr
    obtain ⟨r, hrr⟩ : ∃ r, r = h.rnd ++ p.rnd := ⟨_, rfl⟩
    have hrl2 : r.length = 32 := by rw [hrr, List.length_append, hrl (), prl ()]
    have hz2 : z = hkey r key (tSec ++ be 8 p.ses) := by rw [HZ (), hrr]; rfl
    have HZ2 := fun _ : Unit => hz2
    have HRL := fun _ : Unit => hrl2
    rw [← hrr] at hR hc hv
    simp only [laid, Nat.reduceAdd, hv]
    clear hbb hb hNW hT hr hv hrr hrl2 hz2
    go_wp2_with fail
    refine region_sink (T0 := keepT W'.heap.size) (keepT_trans _) (keepT_refl _) () 9 (fun W2 γ W3 => W3 = W2.setRow (w.heap.size + 3) (bc z).toArray) noJ trivial
      [.is (.slice A r.length c), .is (.slice (some ⟨w.heap.size, 0, none⟩) 32 32), .rowK W'.heap.size tSec, .rowK W'.heap.size tSec, .is (.pointer (some ⟨w.heap.size + 2, 2, none⟩)), .is (.int .u64 (p.ses : Int)),   .bytesK W'.heap.size (be 8 p.ses),   .bytesK W'.heap.size (tSec ++ be 8 p.ses), .is (.agg (bc z).toArray)] (by kernel_rfl) (by kernel_rfl) (by kernel_rfl) (by kernel_rfl) ?_ ?_ ?_
    · refine ⟨?_, ?_, ?_, ?_, ?_, ?_, ?_, ?_, ?_, trivial⟩
      · refine owes_plainG rfl fun dn a W γ hT hdn hdp hJ hf hd => ?_
        have e7 := hf 7 rfl
        exact step_val (w' := W) (by simp only [execOp]; go_simp) ⟨γ, keepT_refl _ _ _, trivial, rfl⟩
      · refine owes_plainG rfl fun dn a W γ hT hdn hdp hJ hf hd => ?_
        have e3 := hf 3 rfl
        exact step_val (w' := W) (by simp only [execOp]; go_simp) ⟨γ, keepT_refl _ _ _, trivial, rfl⟩
      · refine owes_plainG rfl fun dn a W γ hT hdn hdp hJ hf hd => ?_
        refine step_val (w' := W.alloc (.cells (bc tSec).toArray 5)) (v := .slice (some ⟨W.heap.size, 0, none⟩) 6 6) (by simp only [execOp]; go_simp; rfl) ⟨γ, keepT_new (NewMem.alloc _ _) (keepT_size hT rfl), trivial, _, rfl, (rd_blk (Blk.new _ _ _)).mono fun _ _ _ => trivial, keepT_size hT rfl, by unfold World.shape?; rw [heap_alloc_new]; rfl⟩
      · refine owes_plainG rfl fun dn a W γ hT hdn hdp hJ hf hd => ?_
        obtain ⟨v2, d2, b, rfl, hr, hbb, hsh⟩ := hd 2 rfl
        have hcs := run_conv_same (P := Tryd.prog) W 25 5 b tSec.length tSec.length _ Tryd.underlying25 Tryd.underlying5 hsh
        have hkt : keepT W'.heap.size W γ (W.freeze ⟨b, tSec.length, none⟩ 1) γ := ⟨freeze_below (Below.refl _ _) hbb _, fun _ _ h => freeze_cell h, fun _ _ h => freeze_shape h⟩
        exact step_val (v := .slice (some ⟨b, 0, none⟩) tSec.length tSec.length) (by simp only [execOp]; go_simp) ⟨γ, hkt, trivial, b, rfl, hr.keepT hkt, hbb, hkt.2.2 _ _ hsh⟩
      · refine owes_plainG rfl fun dn a W γ hT hdn hdp hJ hf hd => ?_
        have e5 := hf 5 rfl
        exact step_val (w' := W) (by simp only [execOp]; go_simp) ⟨γ, keepT_refl _ _ _, trivial, rfl⟩
      · refine owes_plainG rfl fun dn a W γ hT hdn hdp hJ hf hd => ?_
        obtain ⟨v4, d4, rfl⟩ := hd 4 rfl
        have hc := ((b2.out.below (keepT_nm hT)).cell 2).trans p2
        exact step_val (w' := W) (by simp only [execOp]; go_simp) ⟨γ, keepT_refl _ _ _, trivial, rfl⟩
      · refine owes_plainG rfl fun dn a W γ hT hdn hdp hJ hf hd => ?_
        obtain ⟨v5, d5, rfl⟩ := hd 5 rfl
        refine step_call (w' := W) (f := 33) (args := #[.int .u64 (p.ses : Int), .int .i64 8]) (by simp only [execOp]; go_simp) ((big_calls 8 p.ses W (by omega) hsl).mono ?_)
        rintro e w' ⟨A, c, rfl, ho, hn⟩
        exact ⟨_, rfl, γ, keepT_new hn (keepT_size hT rfl), trivial, A, c, rfl, (big_bytes (w := W) ho).1, (big_bytes (w := W) ho).2⟩
      · refine owes_plainG rfl fun dn a W γ hT hdn hdp hJ hf hd => ?_
        obtain ⟨v3, d3, b, rfl, hr3, _, _⟩ := hd 3 rfl
        obtain ⟨v6, d6, A6, c6, rfl, r6, k6⟩ := hd 6 rfl
        obtain ⟨b', c', w', hrun, hr', hc', hnm⟩ := run_append_full (P := Tryd.prog) W 25 25 5 i0 _ Tryd.underlying25 hi0 hz0 hz1 hz2 rfl _ tSec _ hr3 A6 c6 (be 8 p.ses) _ r6 (by rw [be_length]; decide)
        exact step_val (w' := w') (exec_append (.tmp 18) (.tmp 21) _ rfl ((eval_slot a 18).trans d3) ((eval_slot a 21).trans d6) hrun) ⟨γ, keepT_new hnm (keepT_size hT rfl), trivial, _, _, rfl, hr', hc'⟩
      · refine owes_plainG rfl fun dn a W γ hT hdn hdp hJ hf hd => ?_
        obtain ⟨v0, d0, rfl⟩ := hd 0 rfl
        obtain ⟨v1, d1, rfl⟩ := hd 1 rfl
        obtain ⟨v7, d7, A7, c7, rfl, r7, k7⟩ := hd 7 rfl
        refine step_call (w' := W) (f := 32) (args := #[.slice A r.length c, .slice (some ⟨w.heap.size, 0, none⟩) 32 32, .slice A7 (tSec ++ be 8 p.ses).length c7]) (by simp only [execOp]; go_simp) ?_
        have hk32 : (32 : Nat) = key.length := (HK ()).symm
        rw [show (Value.slice (some ⟨w.heap.size, 0, none⟩) 32 32) = Value.slice (some ⟨w.heap.size, 0, none⟩) key.length key.length from by rw [HK ()]]
        refine (rkey_calls A r c (some ⟨w.heap.size, 0, none⟩) key key.length A7 (tSec ++ be 8 p.ses) c7 W (fun _ => True) (hR.out.below (keepT_nm hT)) hc ((rd_blk (b0.out.below (keepT_nm hT))).mono fun _ _ _ => trivial) (Nat.le_refl _) r7 k7 (HG.out.below (keepT_nm hT)) (by rw [HRL ()]; decide) (by rw [HK ()]; decide) (by rw [List.length_append, be_length]; decide)).mono ?_
        rintro e w' ⟨rfl, hb⟩
        exact ⟨_, rfl, γ, keepT_new hb (keepT_size hT rfl), trivial, by rw [HZ2 ()]; rfl⟩
    · intro o a W2 γ2 ho hT hf hs
      obtain ⟨v8, d8, rfl⟩ := hs 8 (by omega)
      have e6 := hf 6 rfl
      have HZS : (bc z).toArray.size = 32 := by rw [List.size_toArray, bc_length, HZL ()]
      obtain ⟨o', ho', hop⟩ : ∃ o', o = o' ∧ o'.op = .store 31 (.tmp 6) (.tmp 23) := ⟨_, Option.some.inj (ho.symm.trans rfl), rfl⟩
      subst ho'
      exact fun K hK => wp_store_row 31 _ _ hop (w.heap.size + 3) _ ((eval_slot _ 6).trans e6) ((eval_slot _ 23).trans d8) _ _ (b3.out.below (keepT_nm hT)) (by rw [HZS]; kernel_rfl) (by rw [HZS]; rfl) (bc_all _) (hK undef _ rfl)
    · rintro vs2 W2 γ2 W3 hT hp rfl
      have hN := keepT_nm hT
      have hZS := fun _ : Unit => (show (bc z).toArray.size = 32 by rw [List.size_toArray, bc_length, HZL ()])
      simp only [laid, Nat.reduceAdd]
      go_wp2_with fail
      refine bodyPost_ret (results_cell_row rfl _ _ (w.heap.size + 3) 31 (bc z).toArray (0, 0) _ rfl ((b3.out.below hN).setRow _) Tryd.underlying31 rfl (by rw [hZS ()]; kernel_rfl)) rfl ?_
      exact ⟨by rw [HZ ()], below_setRow_own (NewMem.trans _ _ _ n2 hN) (by omega) _⟩
end Go.Proofs.YtbhaekdfpfncnaaDoor

namespace Go.Proofs.YtbhaekdfpfncnaaDoor
set_option linter.unusedVariables false
set_option linter.unusedSimpArgs false
open Go.RowKit


set_option maxHeartbeats 4000000 in
theorem ranswer_calls (key : List UInt8) (hk : key.length = 32) (h : PK) (hh : h.ok) (ses ep : Nat) (hses : ses < 18446744073709551616) (hep : ep < 4294967296) (rnd : List UInt8) (hr : rnd.length = 16) (w : World) (hG : Glb w) :
    Calls Tryd.prog 21 #[.agg (bc key).toArray, .agg h.X, .int .u64 (ses : Int), .int .u32 (ep : Int), .agg (bc rnd).toArray] w fun e w' => e = .returned (.tuple #[.agg (anP key h ses ep rnd).X, .agg (bc (anS key h ses ep rnd)).toArray, .int .i64 (anN key h ses ep rnd)]) ∧ Below w.heap.size w w' := by
  have HG := Lib.hid hG
  have HK := fun _ : Unit => hk
  have HH := fun _ : Unit => hh
  have HR := fun _ : Unit => hr
  have hks : (bc key).toArray.size = 32 := by rw [List.size_toArray, bc_length, hk]
  have HKS := fun _ : Unit => hks
  have HOK := fun _ : Unit => aPK_ok hses hep hr z16_len
  have HB := fun _ : Unit => built_a ses ep rnd hr
  have hz32 := fun (w : World) => run_build (P := Tryd.prog) w 31 #[] (bc Z32).toArray built_z32
  have hzpk := fun (w : World) => run_build (P := Tryd.prog) w 27 #[] zPK.X built_z
  obtain ⟨N, hN⟩ : ∃ N, N = anN key h ses ep rnd := ⟨_, rfl⟩
  obtain ⟨S, hS⟩ : ∃ S, S = anS key h ses ep rnd := ⟨_, rfl⟩
  obtain ⟨pp, hpp⟩ : ∃ pp, pp = anP key h ses ep rnd := ⟨_, rfl⟩
  have HN := fun _ : Unit => hN
  have HS := fun _ : Unit => hS
  have HPP := fun _ : Unit => hpp
  obtain ⟨X, hX⟩ : ∃ X, X = h.X := ⟨_, rfl⟩
  obtain ⟨Y, hY⟩ : ∃ Y, Y = (aPK ses ep rnd Z16).X := ⟨_, rfl⟩
  have hXs : X.size = 38 := by rw [hX]; exact PK.size hh
  have hYs : Y.size = 38 := by rw [hY]; exact PK.size (HOK ())
  have hY1 : Y.all (·.oneCell') = true := by rw [hY]; exact PK.one _
  have HX := fun _ : Unit => hX
  have HY := fun _ : Unit => hY
  have HXS := fun _ : Unit => hXs
  have HYS := fun _ : Unit => hYs
  have HY1 := fun _ : Unit => hY1
  rw [← hX, ← hN, ← hS, ← hpp]
  rw [← hY] at HB
  clear hG hk hh hr hks hX hY hXs hYs hY1 hN hS hpp hses hep
  go_enter Tryd.func21, Tryd.ntmps21
  go_wp2_with (first | (refine at_slot 15 ?_; refine wpList_load_row rfl 31 _ rfl w.heap.size rfl _ (bc key).toArray (0, 0) _ (alloc5_0 w _ _ _ _ _ _) Tryd.underlying31 rfl (by rw [HKS ()]; kernel_rfl) ?_) | (refine at_slot 16 ?_; refine wpList_load_row rfl 27 _ rfl (w.heap.size + 1) rfl _ X (0, 0) _ (alloc5_1 w _ _ _ _ _ _) Tryd.underlying27 rfl (by rw [HXS ()]; kernel_rfl) ?_))
  generalize hw1 : World.alloc (World.alloc (World.alloc (World.alloc (World.alloc w _) _) _) _) _ = w1
  have b0 : Hid (Blk w1 w.heap.size 31 (bc key).toArray) := by show Blk _ _ _ _; rw [← hw1]; exact ((((Blk.new _ _ _).alloc _).alloc _).alloc _).alloc _
  have b1 : Hid (Blk w1 (w.heap.size + 1) 27 X) := by show Blk _ _ _ _; rw [← hw1]; exact (((Blk.newAt _ _ (by simp)).alloc _).alloc _).alloc _
  have b2 : Hid (Blk w1 (w.heap.size + 2) 24 (bc rnd).toArray) := by show Blk _ _ _ _; rw [← hw1]; exact ((Blk.newAt _ _ (by simp)).alloc _).alloc _
  have b3 : Hid (Blk w1 (w.heap.size + 3) 27 zPK.X) := by show Blk _ _ _ _; rw [← hw1]; exact (Blk.newAt _ _ (by simp)).alloc _
  have b4 : Hid (Blk w1 (w.heap.size + 4) 31 (bc Z32).toArray) := by show Blk _ _ _ _; rw [← hw1]; exact Blk.newAt _ _ (by simp)
  have n1 : NewMem w w1 := by rw [← hw1]; exact ((((NewMem.alloc _ _).more _).more _).more _).more _
  clear hw1
  rw [HX ()]
  refine (rchello_calls key (HK ()) h (HH ()) _ (HG.out.below n1)).mono ?_
  rw [← HX ()]
  rintro e w2 ⟨rfl, hb2⟩
  have b0 := Lib.hid (b0.out.below hb2)
  have b1 := Lib.hid (b1.out.below hb2)
  have b2 := Lib.hid (b2.out.below hb2)
  have b3 := Lib.hid (b3.out.below hb2)
  have b4 := Lib.hid (b4.out.below hb2)
  have n2 : NewMem w w2 := NewMem.trans _ _ _ n1 hb2
  clear n1 hb2
  have hNd : N = if chN key h = 0 then (if chkB (aPK ses ep rnd Z16) then 0 else 2) else chN key h := HN ()
  have hSd : S = if N = 0 then secF key h (aPK ses ep rnd Z16) else Z32 := by rw [HS (), HN ()]; rfl
  have hPd : pp = if N = 0 then aPK ses ep rnd (ansF key h (aPK ses ep rnd Z16)) else zPK := by rw [HPP (), HN ()]; rfl
  obtain ⟨C, hC⟩ : ∃ C, C = chN key h := ⟨_, rfl⟩
  rw [← hC] at hNd ⊢
  clear hC
  obtain ⟨g, hg⟩ : ∃ g, g = w2.heap.size := ⟨_, rfl⟩
  have hgl : w.heap.size + 5 ≤ g := by have := b4.out.lt; omega
  have hrd := rd_blk b2.out
  have HC2 : Hid (∀ (j : Nat) (v : Value), (bc rnd)[j]? = some v → w2.cell? ((⟨w.heap.size + 2, 0, none⟩ : Addr).add j) = some v) := Lib.hid fun j v hv => by
    obtain ⟨ad, e', _, h'⟩ := hrd j v hv
    cases e'
    exact h'
  clear hrd
  by_cases hc0 : C = 0
  rotate_left
  · rw [if_neg hc0] at hNd
    rw [hNd, if_neg hc0] at hSd hPd
    have E1 := fun _ : Unit => hNd
    have E2 := fun _ : Unit => hSd
    have E3 := fun _ : Unit => hPd
    have q1 : (C == 0) = false := by rw [beq_eq_false_iff_ne]; exact hc0
    clear hNd hSd hPd
    go_wp2_with (first | (refine at_slot 20 ?_; refine wpList_load_rd rfl 24 _ rfl ⟨w.heap.size + 2, 0, none⟩ rfl (bc rnd) _ HC2.out Tryd.underlying24 rfl (by rw [bc_length, HR ()]; kernel_rfl) ?_) | (refine at_slot 21 ?_; refine wpList_build_to rfl 27 _ rfl Y (HB ()) ?_) | (refine at_store 27 ?_; first | (refine wpList_store_row rfl 27 _ _ rfl w2.heap.size Y rfl rfl _ _ (Blk.new _ _ _) (by rw [HYS ()]; kernel_rfl) (by rw [HYS ()]; rfl) (HY1 ()) ?_) | (refine wpList_store_row rfl 27 _ _ rfl (w.heap.size + 3) zPK.X rfl rfl _ _ ((b3.out.alloc _).setRow_far (by omega) _) (by kernel_rfl) rfl (PK.one _) ?_)) | (refine at_slot 24 ?_; refine wpList_load_row rfl 27 _ rfl w2.heap.size rfl _ Y (0, 0) _ ((Blk.new _ _ _).setRow _) Tryd.underlying27 rfl (by rw [HYS ()]; kernel_rfl) ?_) | (refine at_store 31 ?_; refine wpList_store_row rfl 31 _ _ rfl (w.heap.size + 4) (bc Z32).toArray rfl rfl _ _ (((b4.out.alloc _).setRow_far (by omega) _).setRow_far (by omega) _) (by kernel_rfl) rfl (bc_all _) ?_))
    refine bodyPost_ret (run_results3 rfl _ _ (w.heap.size + 3) 27 zPK.X _ rfl ((((b3.out.alloc _).setRow_far (by omega) _).setRow _).setRow_far (by omega) _) Tryd.underlying27 rfl (by kernel_rfl) (w.heap.size + 4) 31 (bc Z32).toArray _ rfl ((((b4.out.alloc _).setRow_far (by omega) _).setRow_far (by omega) _).setRow _) Tryd.underlying31 rfl (by kernel_rfl)) rfl ?_
    exact ⟨by rw [E1 (), E2 (), E3 ()]; rfl, below_setRow_own (below_setRow_own (below_setRow_own (n2.more _) (by omega) _) (by omega) _) (by omega) _⟩
  rw [if_pos hc0] at hNd
  subst hc0
  go_wp2_with (first | (refine at_slot 20 ?_; refine wpList_load_rd rfl 24 _ rfl ⟨w.heap.size + 2, 0, none⟩ rfl (bc rnd) _ HC2.out Tryd.underlying24 rfl (by rw [bc_length, HR ()]; kernel_rfl) ?_) | (refine at_slot 21 ?_; refine wpList_build_to rfl 27 _ rfl Y (HB ()) ?_) | (refine at_store 27 ?_; refine wpList_store_row rfl 27 _ _ rfl w2.heap.size Y rfl rfl _ _ (Blk.new _ _ _) (by rw [HYS ()]; kernel_rfl) (by rw [HYS ()]; rfl) (HY1 ()) ?_) | (refine at_slot 24 ?_; refine wpList_load_row rfl 27 _ rfl w2.heap.size rfl _ Y (0, 0) _ ((Blk.new _ _ _).setRow _) Tryd.underlying27 rfl (by rw [HYS ()]; kernel_rfl) ?_) | (refine at_store 31 ?_; refine wpList_store_row rfl 31 _ _ rfl (w.heap.size + 4) (bc Z32).toArray rfl rfl _ _ (((b4.out.alloc _).setRow_far (by omega) _).setRow_far (by omega) _) (by kernel_rfl) rfl (bc_all _) ?_))
  generalize hw3 : World.setRow _ _ _ = w3
  have n23 : NewMem w2 w3 := by rw [← hw3]; exact below_setRow_own (NewMem.alloc _ _) (Nat.le_refl _) _
  have b5 : Hid (Blk w3 g 27 Y) := by show Blk _ _ _ _; rw [← hw3, hg]; exact (Blk.new _ _ zPK.X).setRow _
  have b0 := Lib.hid (b0.out.below n23)
  have b1 := Lib.hid (b1.out.below n23)
  have b3 := Lib.hid (b3.out.below n23)
  have b4 := Lib.hid (b4.out.below n23)
  have n3 : NewMem w w3 := NewMem.trans _ _ _ n2 n23
  rw [← hg]
  clear hw3 hg n23 n2 HC2 b2
  rw [HY ()]
  refine (rchk_calls _ (HOK ()) _).mono ?_
  rw [← HY ()]
  rintro e w4 ⟨rfl, hb4⟩
  have b0 := Lib.hid (b0.out.below hb4)
  have b1 := Lib.hid (b1.out.below hb4)
  have b3 := Lib.hid (b3.out.below hb4)
  have b5 := Lib.hid (b5.out.below hb4)
  have b4 := Lib.hid (b4.out.below hb4)
  have n4 : NewMem w w4 := NewMem.trans _ _ _ n3 hb4
  clear n3 hb4
  cases hcb : chkB (aPK ses ep rnd Z16)
  · rw [hcb, if_neg (by decide)] at hNd
    rw [hNd, if_neg (by decide)] at hSd hPd
    have E1 := fun _ : Unit => hNd
    have E2 := fun _ : Unit => hSd
    have E3 := fun _ : Unit => hPd
    clear hNd hSd hPd hcb
    simp only [resN]
    go_wp2_with (first | (refine at_store 27 ?_; refine wpList_store_row rfl 27 _ _ rfl (w.heap.size + 3) zPK.X rfl rfl _ _ b3.out (by kernel_rfl) rfl (PK.one _) ?_) | (refine at_store 31 ?_; refine wpList_store_row rfl 31 _ _ rfl (w.heap.size + 4) (bc Z32).toArray rfl rfl _ _ (b4.out.setRow_far (by omega) _) (by kernel_rfl) rfl (bc_all _) ?_))
    refine bodyPost_ret (run_results3 rfl _ _ (w.heap.size + 3) 27 zPK.X _ rfl ((b3.out.setRow _).setRow_far (by omega) _) Tryd.underlying27 rfl (by kernel_rfl) (w.heap.size + 4) 31 (bc Z32).toArray _ rfl ((b4.out.setRow_far (by omega) _).setRow _) Tryd.underlying31 rfl (by kernel_rfl)) rfl ?_
    exact ⟨by rw [E1 (), E2 (), E3 ()]; rfl, below_setRow_own (below_setRow_own n4 (by omega) _) (by omega) _⟩
  rw [hcb, if_pos rfl] at hNd
  rw [hNd, if_pos rfl] at hSd hPd
  clear hcb
  simp only [resN]
  obtain ⟨z, hz⟩ : ∃ z, z = ansF key h (aPK ses ep rnd Z16) := ⟨_, rfl⟩
  have hzl : z.length = 16 := by rw [hz]; exact ansF_length _ _ _
  rw [← hz] at hPd
  have hmid : midC Y 21 (bc z) = pp.X := by rw [hPd, HY (), mid_mark (HOK ()) z hzl]; rfl
  have hppok : pp.ok := by rw [hPd]; exact aPK_ok (HOK ()).ses (HOK ()).ep (HR ()) hzl
  have hsec : secF key h pp = S := by rw [hSd, hPd]; rfl
  have hSl : S.length = 32 := by rw [hSd]; exact secF_length _ _ _
  obtain ⟨V, hV⟩ : ∃ V, V = pp.X := ⟨_, rfl⟩
  rw [← hV] at hmid
  have HZ := fun _ : Unit => hz
  have HZL : Unit → (bc z).length = 16 := fun _ => by rw [bc_length, hzl]
  have HMID := fun _ : Unit => hmid
  have HPOK := fun _ : Unit => hppok
  have HSEC := fun _ : Unit => hsec
  have HSL : Unit → (bc S).toArray.size = 32 := fun _ => by rw [List.size_toArray, bc_length, hSl]
  have HV := fun _ : Unit => hV
  have HVS : Unit → V.size = 38 := fun _ => by rw [hV]; exact PK.size hppok
  have HV1 : Unit → V.all (·.oneCell') = true := fun _ => by rw [hV]; exact PK.one _
  have E1 := fun _ : Unit => hNd
  clear hNd hSd hPd hmid hppok hsec hSl hz hzl hV
  go_wp2_with (first | (refine at_slot 31 ?_; refine wpList_load_row rfl 31 _ rfl w.heap.size rfl _ (bc key).toArray (0, 0) _ b0.out Tryd.underlying31 rfl (by rw [HKS ()]; kernel_rfl) ?_) | (refine at_slot 32 ?_; refine wpList_load_row rfl 27 _ rfl (w.heap.size + 1) rfl _ X (0, 0) _ b1.out Tryd.underlying27 rfl (by rw [HXS ()]; kernel_rfl) ?_) | (refine at_slot 33 ?_; refine wpList_load_row rfl 27 _ rfl g rfl _ Y (0, 0) _ b5.out Tryd.underlying27 rfl (by rw [HYS ()]; kernel_rfl) ?_))
  rw [HX (), HY ()]
  refine (ramark_calls key (HK ()) h _ (HH ()) (HOK ()) w4 (HG.out.below n4)).mono ?_
  rw [← HX (), ← HY (), ← HZ ()]
  rintro e w5 ⟨rfl, hb5⟩
  have b0 := Lib.hid (b0.out.below hb5)
  have b1 := Lib.hid (b1.out.below hb5)
  have b3 := Lib.hid (b3.out.below hb5)
  have b5 := Lib.hid (b5.out.below hb5)
  have b4 := Lib.hid (b4.out.below hb5)
  have n5 : NewMem w w5 := NewMem.trans _ _ _ n4 hb5
  clear n4 hb5
  go_wp2_with (refine at_store 24 ?_; refine wpList_store_at rfl 24 _ _ rfl g 21 (bc z) rfl rfl _ _ b5.out (by rw [HZL (), HYS ()]; decide) (bc_one z) (by rw [HZL ()]; kernel_rfl) ?_)
  rw [HMID ()]
  have b0 := Lib.hid (b0.out.setRow_far (k := g) (by omega) V)
  have b1 := Lib.hid (b1.out.setRow_far (k := g) (by omega) V)
  have b3 := Lib.hid (b3.out.setRow_far (k := g) (by omega) V)
  have b4 := Lib.hid (b4.out.setRow_far (k := g) (by omega) V)
  have b5 := Lib.hid (b5.out.setRow V)
  have n6 : NewMem w (w5.setRow g V) := below_setRow_own n5 (by omega) _
  generalize w5.setRow g V = w6 at *
  clear n5
  refine region_toG (T := twoT (w.heap.size + 3) (w.heap.size + 4)) (J := ansJ (w.heap.size + 3) (w.heap.size + 4) 27 31 zPK.X V (bc Z32).toArray (bc S).toArray) (twoT_trans _ _) (twoT_refl _ _) () (fun vs W γ => Blk W (w.heap.size + 3) 27 V ∧ Blk W (w.heap.size + 4) 31 (bc S).toArray ∧ vs 7 = .int .i64 0) (by kernel_rfl) (by kernel_rfl) (by kernel_rfl) ⟨b3.out, b4.out⟩ ⟨prOfG
    [.is (.agg V), .is (.agg (bc key).toArray), .is (.agg X), .is (.agg V), .is (.agg (bc S).toArray), .any, .any, .is (.int .i64 0)], prOfG_st _, none_two 5 6 (by kernel_rfl) (fun _ _ _ h => trivial) (fun _ _ _ h => trivial), ⟨?_, ?_, ?_, ?_, ?_, ?_, ?_, ?_, trivial⟩, fun vs W γ hT hJ hp => ⟨?_, ?_, hp 7 rfl⟩⟩ ?_
  · refine owes_plainG rfl fun dn a W γ hT hdn hdp hJ hf hd => ?_
    have e14 := hf 14 rfl
    exact step_load_row 27 _ rfl ((eval_slot _ 14).trans e14) (b5.out.keep (twoT_fr hT) (by omega)) Tryd.underlying27 rfl (by rw [HVS ()]; kernel_rfl) ⟨γ, twoT_refl _ _ _ _, ansJ_ne (by decide) (by decide) hJ (NewMem.refl _), rfl⟩
  · refine owes_plainG rfl fun dn a W γ hT hdn hdp hJ hf hd => ?_
    have e5 := hf 5 rfl
    exact step_load_row 31 _ rfl ((eval_slot _ 5).trans e5) (b0.out.keep (twoT_fr hT) (by omega)) Tryd.underlying31 rfl (by rw [HKS ()]; kernel_rfl) ⟨γ, twoT_refl _ _ _ _, ansJ_ne (by decide) (by decide) hJ (NewMem.refl _), rfl⟩
  · refine owes_plainG rfl fun dn a W γ hT hdn hdp hJ hf hd => ?_
    have e6 := hf 6 rfl
    exact step_load_row 27 _ rfl ((eval_slot _ 6).trans e6) (b1.out.keep (twoT_fr hT) (by omega)) Tryd.underlying27 rfl (by rw [HXS ()]; kernel_rfl) ⟨γ, twoT_refl _ _ _ _, ansJ_ne (by decide) (by decide) hJ (NewMem.refl _), rfl⟩
  · refine owes_plainG rfl fun dn a W γ hT hdn hdp hJ hf hd => ?_
    have e14 := hf 14 rfl
    exact step_load_row 27 _ rfl ((eval_slot _ 14).trans e14) (b5.out.keep (twoT_fr hT) (by omega)) Tryd.underlying27 rfl (by rw [HVS ()]; kernel_rfl) ⟨γ, twoT_refl _ _ _ _, ansJ_ne (by decide) (by decide) hJ (NewMem.refl _), rfl⟩
  · refine owes_plainG rfl fun dn a W γ hT hdn hdp hJ hf hd => ?_
    obtain ⟨v1, d1, rfl⟩ := hd 1 rfl
    obtain ⟨v2, d2, rfl⟩ := hd 2 rfl
    obtain ⟨v3, d3, rfl⟩ := hd 3 rfl
    refine step_call (w' := W) (f := 20) (args := #[.agg (bc key).toArray, .agg X, .agg V]) (by simp only [execOp]; go_simp) ?_
    have hsc := rsecret_calls key (HK ()) h pp (HH ()) (HPOK ()) W ((HG.out.below n6).keep (twoT_fr hT) (fun k _ hk => by omega))
    rw [← HX (), ← HV ()] at hsc
    refine hsc.mono ?_
    rintro e w' ⟨rfl, hb⟩
    exact ⟨_, rfl, γ, Fr.new hb, ansJ_ne (by decide) (by decide) hJ hb, by rw [HSEC ()]; rfl⟩
  · refine owes_plainG rfl fun dn a W γ hT hdn hdp hJ hf hd => ?_
    obtain ⟨v0, d0, rfl⟩ := hd 0 rfl
    have e10 := hf 10 rfl
    obtain ⟨hq, hj⟩ := ansJ_five (by omega) hdn hJ
    exact fun K hK => wp_store_row 27 _ _ rfl (w.heap.size + 3) _ ((eval_slot _ 10).trans e10) ((eval_slot _ 36).trans d0) _ _ hq (by rw [HVS ()]; kernel_rfl) (by rw [HVS ()]; rfl) (HV1 ()) (hK undef _ ⟨γ, (Fr.refl _ _).setRow (fun _ => Or.inl rfl) _, hj, trivial⟩)
  · refine owes_plainG rfl fun dn a W γ hT hdn hdp hJ hf hd => ?_
    obtain ⟨v4, d4, rfl⟩ := hd 4 rfl
    have e11 := hf 11 rfl
    obtain ⟨hq, hj⟩ := ansJ_six (by omega) hdn hJ
    exact fun K hK => wp_store_row 31 _ _ rfl (w.heap.size + 4) _ ((eval_slot _ 11).trans e11) ((eval_slot _ 40).trans d4) _ _ hq (by rw [HSL ()]; kernel_rfl) (by rw [HSL ()]; rfl) (bc_all _) (hK undef _ ⟨γ, (Fr.refl _ _).setRow (fun _ => Or.inr rfl) _, hj, trivial⟩)
  · refine owes_plainG rfl fun dn a W γ hT hdn hdp hJ hf hd => ?_
    exact step_val (w' := W) (by simp only [execOp]; go_simp) ⟨γ, twoT_refl _ _ _ _, ansJ_ne (by decide) (by decide) hJ (NewMem.refl _), rfl⟩
  · have hq := hJ.1
    rw [if_pos (by kernel_rfl)] at hq
    exact hq
  · have hq := hJ.2
    rw [if_pos (by kernel_rfl)] at hq
    exact hq
  · rintro vs W γ hT ⟨hb3, hb4, hvs⟩
    have hB : Below w.heap.size w W := below_fr n6 (twoT_fr hT) (Nat.le_refl _) (fun k hk => by omega)
    simp only [laid, Nat.reduceAdd, hvs]
    go_wp2_with fail
    refine bodyPost_ret (run_results3 rfl _ _ (w.heap.size + 3) 27 V _ rfl hb3 Tryd.underlying27 rfl (by rw [HVS ()]; kernel_rfl) (w.heap.size + 4) 31 (bc S).toArray _ rfl hb4 Tryd.underlying31 rfl (by rw [HSL ()]; kernel_rfl)) rfl ?_
    exact ⟨by rw [E1 (), ← HV ()]; rfl, hB⟩
end Go.Proofs.YtbhaekdfpfncnaaDoor

namespace Go.Proofs.YtbhaekdfpfncnaaDoor
set_option linter.unusedVariables false
set_option linter.unusedSimpArgs false
open Go.RowKit

theorem owes_notG {P : Program} {Q : Exit → Act → World → Prop} {G : Type} {T : World → G → World → G → Prop} {J : (Nat → Bool) → World → G → Prop} {ops : Array Oper} {pr : Nat → Value → World → G → Prop} {a0 : Act} {w0 : World} {γ0 : G} {i : Nat} {o : Oper} {j : Nat} {want : Bool} (hg : o.guard = some (j, want)) (hd : (dstAt ops j).isSome = true) (hp : ∀ v w γ, pr j v w γ → v ≠ .bool want) (h : ∀ w γ, pr i undef w γ) (hJ : ∀ dn w γ, dn i = false → J dn w γ → J (did dn i) w γ) : OwesG P Q T J ops pr a0 w0 γ0 i o :=
  Or.inr ⟨j, want, hg, hd, hp, h, hJ⟩
set_option maxHeartbeats 4000000 in
theorem rcanswer_calls (key : List UInt8) (hk : key.length = 32) (h p : PK) (hh : h.ok) (hp : p.ok) (w : World) (hG : Glb w) :
    Calls Tryd.prog 22 #[.agg (bc key).toArray, .agg h.X, .agg p.X] w fun e w' => e = .returned (.tuple #[.agg (bc (caS key h p)).toArray, .int .i64 (caN key h p)]) ∧ Below w.heap.size w w' := by
  have HG := Lib.hid hG
  have HK := fun _ : Unit => hk
  have HH := fun _ : Unit => hh
  have HP := fun _ : Unit => hp
  have hks : (bc key).toArray.size = 32 := by rw [List.size_toArray, bc_length, hk]
  have HKS := fun _ : Unit => hks
  have p0 := p.x0
  have pxm := fun _ : Unit => PK.xm hp
  have pml := fun _ : Unit => hp.mrk
  have hz32 := fun (w : World) => run_build (P := Tryd.prog) w 31 #[] (bc Z32).toArray built_z32
  obtain ⟨N, hN⟩ : ∃ N, N = caN key h p := ⟨_, rfl⟩
  obtain ⟨S, hS⟩ : ∃ S, S = caS key h p := ⟨_, rfl⟩
  have HN := fun _ : Unit => hN
  have HS := fun _ : Unit => hS
  obtain ⟨X, hX⟩ : ∃ X, X = h.X := ⟨_, rfl⟩
  obtain ⟨Y, hY⟩ : ∃ Y, Y = p.X := ⟨_, rfl⟩
  have hXs : X.size = 38 := by rw [hX]; exact PK.size hh
  have hYs : Y.size = 38 := by rw [hY]; exact PK.size hp
  have HX := fun _ : Unit => hX
  have HY := fun _ : Unit => hY
  have HXS := fun _ : Unit => hXs
  have HYS := fun _ : Unit => hYs
  rw [← hX, ← hY, ← hN, ← hS]
  rw [← hY] at p0 pxm
  clear hG hk hh hp hks hX hY hXs hYs hN hS
  go_enter Tryd.func22, Tryd.ntmps22
  go_wp2_with (first | (refine wpList_load_row rfl 31 _ rfl w.heap.size rfl _ (bc key).toArray (0, 0) _ ((((Blk.new _ _ _).alloc _).alloc _).alloc _) Tryd.underlying31 rfl (by rw [HKS ()]; kernel_rfl) ?_) | (refine wpList_load_row rfl 27 _ rfl (w.heap.size + 1) rfl _ X (0, 0) _ (((Blk.newAt _ _ (by simp)).alloc _).alloc _) Tryd.underlying27 rfl (by rw [HXS ()]; kernel_rfl) ?_))
  generalize hw1 : World.alloc (World.alloc (World.alloc (World.alloc w _) _) _) _ = w1
  have b0 : Hid (Blk w1 w.heap.size 31 (bc key).toArray) := by show Blk _ _ _ _; rw [← hw1]; exact (((Blk.new _ _ _).alloc _).alloc _).alloc _
  have b1 : Hid (Blk w1 (w.heap.size + 1) 27 X) := by show Blk _ _ _ _; rw [← hw1]; exact ((Blk.newAt _ _ (by simp)).alloc _).alloc _
  have b2 : Hid (Blk w1 (w.heap.size + 2) 27 Y) := by show Blk _ _ _ _; rw [← hw1]; exact (Blk.newAt _ _ (by simp)).alloc _
  have b3 : Hid (Blk w1 (w.heap.size + 3) 31 (bc Z32).toArray) := by show Blk _ _ _ _; rw [← hw1]; exact Blk.newAt _ _ (by simp)
  have n1 : NewMem w w1 := by rw [← hw1]; exact (((NewMem.alloc _ _).more _).more _).more _
  clear hw1
  rw [HX ()]
  refine (rchello_calls key (HK ()) h (HH ()) _ (HG.out.below n1)).mono ?_
  rw [← HX ()]
  rintro e w2 ⟨rfl, hb2⟩
  have b0 := Lib.hid (b0.out.below hb2)
  have b1 := Lib.hid (b1.out.below hb2)
  have b2 := Lib.hid (b2.out.below hb2)
  have b3 := Lib.hid (b3.out.below hb2)
  have n2 : NewMem w w2 := NewMem.trans _ _ _ n1 hb2
  clear n1 hb2
  have hNd : N = if chN key h = 0 then (if chkB p then (if p.kind = 2 then (if p.mrk = ansF key h p then 0 else 12) else 2) else 2) else chN key h := HN ()
  have hSd : S = if N = 0 then secF key h p else Z32 := by rw [HS (), HN ()]; rfl
  obtain ⟨C, hC⟩ : ∃ C, C = chN key h := ⟨_, rfl⟩
  have HC := fun _ : Unit => hC
  rw [← hC] at hNd ⊢
  clear hC
  by_cases hc0 : C = 0
  rotate_left
  · rw [if_neg hc0] at hNd
    rw [hNd, if_neg hc0] at hSd
    have E1 := fun _ : Unit => hNd
    have E2 := fun _ : Unit => hSd
    have q1 : (C == 0) = false := by rw [beq_eq_false_iff_ne]; exact hc0
    clear hNd hSd
    go_wp2_with fail
    refine region_toG (T := newT) (J := noJ) newT_trans newT_refl () (fun vs W γ => vs 10 = .bool false) (by kernel_rfl) (by kernel_rfl) (by kernel_rfl) trivial ⟨prOfG
      ([.is (.int .i64 C), .is (.bool false), .is (.bool false), .any, .any, .any, .any, .any, .any, .any, .is (.bool false)] : List (PrG newT)), prOfG_st _, no_none (by kernel_rfl), ⟨?_, ?_, ?_, ?_, ?_, ?_, ?_, ?_, ?_, ?_, ?_, trivial⟩, fun vs W γ hT hJ hp => ?_⟩ ?_
    · refine owes_plainG rfl fun dn a W γ hT hdn hdp hJ hf hd => ?_
      have e8 := hf 8 rfl
      exact step_val (w' := W) (by simp only [execOp]; go_simp) ⟨γ, newT_refl _ _, trivial, rfl⟩
    · refine owes_plainG rfl fun dn a W γ hT hdn hdp hJ hf hd => ?_
      obtain ⟨v0, d0, rfl⟩ := hd 0 rfl
      exact step_val (w' := W) (by simp only [execOp]; go_simp) ⟨γ, newT_refl _ _, trivial, rfl⟩
    · refine owes_plainG rfl fun dn a W γ hT hdn hdp hJ hf hd => ?_
      obtain ⟨v1, d1, rfl⟩ := hd 1 rfl
      exact step_val (w' := W) (by simp only [execOp]; go_simp) ⟨γ, newT_refl _ _, trivial, rfl⟩
    iterate 7 (refine owes_notG rfl rfl (fun v w γ h => by rw [show v = .bool false from h]; simp) (fun _ _ => trivial) (fun _ _ _ _ _ => trivial))
    · refine owes_plainG rfl fun dn a W γ hT hdn hdp hJ hf hd => ?_
      obtain ⟨v2, d2, rfl⟩ := hd 2 rfl
      exact step_val (w' := W) (by simp only [execOp]; go_simp) ⟨γ, newT_refl _ _, trivial, rfl⟩
    · exact hp 10 rfl
    · intro vs W γ hT hvs
      have b3 := Lib.hid (b3.out.below (newT_nm hT))
      have n9 : NewMem w W := NewMem.trans _ _ _ n2 (newT_nm hT)
      simp only [laid, Nat.reduceAdd, hvs]
      clear hT hvs
      go_wp2_with (refine at_store 31 ?_; refine wpList_store_row rfl 31 _ _ rfl (w.heap.size + 3) (bc Z32).toArray rfl rfl _ _ b3.out (by kernel_rfl) rfl (bc_all _) ?_)
      refine bodyPost_ret (run_results2 rfl _ _ (w.heap.size + 3) 31 (bc Z32).toArray _ rfl (b3.out.setRow _) Tryd.underlying31 rfl (by kernel_rfl)) rfl ?_
      exact ⟨by rw [E1 (), E2 ()]; rfl, below_setRow_own n9 (by omega) _⟩
  rw [if_pos hc0] at hNd
  subst hc0
  go_wp2_with (refine at_slot 15 ?_; refine wpList_load_rd_if (by first | rfl | simp [Region.wanted, yielded]) 27 _ rfl ⟨w.heap.size + 2, 0, none⟩ rfl Y.toList _ (blkC (b2.out)) Tryd.underlying27 rfl (by rw [Array.length_toList, HYS ()]; kernel_rfl) ?_; rw [Array.toArray_toList])
  rw [HY ()]
  refine (rchk_calls _ (HP ()) _).mono ?_
  rw [← HY ()]
  rintro e w3 ⟨rfl, hb3⟩
  have b0 := Lib.hid (b0.out.below hb3)
  have b1 := Lib.hid (b1.out.below hb3)
  have b2 := Lib.hid (b2.out.below hb3)
  have b3 := Lib.hid (b3.out.below hb3)
  have n3 : NewMem w w3 := NewMem.trans _ _ _ n2 hb3
  clear n2 hb3
  cases hcb : chkB p
  · rw [hcb, if_neg (by decide)] at hNd
    rw [hNd, if_neg (by decide)] at hSd
    have E1 := fun _ : Unit => hNd
    have E2 := fun _ : Unit => hSd
    clear hNd hSd hcb
    simp only [resN]
    go_wp2_with fail
    refine region_toG (T := newT) (J := noJ) newT_trans newT_refl () (fun vs W γ => vs 10 = .bool false) (by kernel_rfl) (by kernel_rfl) (by kernel_rfl) trivial ⟨prOfG
      ([.is (.int .i64 2), .is (.bool false), .is (.bool false), .any, .any, .any, .any, .any, .any, .any, .is (.bool false)] : List (PrG newT)), prOfG_st _, no_none (by kernel_rfl), ⟨?_, ?_, ?_, ?_, ?_, ?_, ?_, ?_, ?_, ?_, ?_, trivial⟩, fun vs W γ hT hJ hp => ?_⟩ ?_
    · refine owes_plainG rfl fun dn a W γ hT hdn hdp hJ hf hd => ?_
      have e8 := hf 8 rfl
      exact step_val (w' := W) (by simp only [execOp]; go_simp) ⟨γ, newT_refl _ _, trivial, rfl⟩
    · refine owes_plainG rfl fun dn a W γ hT hdn hdp hJ hf hd => ?_
      obtain ⟨v0, d0, rfl⟩ := hd 0 rfl
      exact step_val (w' := W) (by simp only [execOp]; go_simp) ⟨γ, newT_refl _ _, trivial, rfl⟩
    · refine owes_plainG rfl fun dn a W γ hT hdn hdp hJ hf hd => ?_
      obtain ⟨v1, d1, rfl⟩ := hd 1 rfl
      exact step_val (w' := W) (by simp only [execOp]; go_simp) ⟨γ, newT_refl _ _, trivial, rfl⟩
    iterate 7 (refine owes_notG rfl rfl (fun v w γ h => by rw [show v = .bool false from h]; simp) (fun _ _ => trivial) (fun _ _ _ _ _ => trivial))
    · refine owes_plainG rfl fun dn a W γ hT hdn hdp hJ hf hd => ?_
      obtain ⟨v2, d2, rfl⟩ := hd 2 rfl
      exact step_val (w' := W) (by simp only [execOp]; go_simp) ⟨γ, newT_refl _ _, trivial, rfl⟩
    · exact hp 10 rfl
    · intro vs W γ hT hvs
      have b3 := Lib.hid (b3.out.below (newT_nm hT))
      have n9 : NewMem w W := NewMem.trans _ _ _ n3 (newT_nm hT)
      simp only [laid, Nat.reduceAdd, hvs]
      clear hT hvs
      go_wp2_with (refine at_store 31 ?_; refine wpList_store_row rfl 31 _ _ rfl (w.heap.size + 3) (bc Z32).toArray rfl rfl _ _ b3.out (by kernel_rfl) rfl (bc_all _) ?_)
      refine bodyPost_ret (run_results2 rfl _ _ (w.heap.size + 3) 31 (bc Z32).toArray _ rfl (b3.out.setRow _) Tryd.underlying31 rfl (by kernel_rfl)) rfl ?_
      exact ⟨by rw [E1 (), E2 ()]; rfl, below_setRow_own n9 (by omega) _⟩
  rw [hcb, if_pos rfl] at hNd
  clear hcb
  simp only [resN]
  by_cases hk2 : p.kind = 2
  rotate_left
  · rw [if_neg hk2] at hNd
    rw [hNd, if_neg (by decide)] at hSd
    have E1 := fun _ : Unit => hNd
    have E2 := fun _ : Unit => hSd
    have hq := (b2.out.cell 0).trans p0
    have q1 : (p.kind == 2) = false := by rw [beq_eq_false_iff_ne]; exact hk2
    clear hNd hSd
    go_wp2_with fail
    refine region_toG (T := newT) (J := noJ) newT_trans newT_refl () (fun vs W γ => vs 10 = .bool false) (by kernel_rfl) (by kernel_rfl) (by kernel_rfl) trivial ⟨prOfG
      ([.is (.int .i64 2), .is (.bool false), .is (.bool false), .any, .any, .any, .any, .any, .any, .any, .is (.bool false)] : List (PrG newT)), prOfG_st _, no_none (by kernel_rfl), ⟨?_, ?_, ?_, ?_, ?_, ?_, ?_, ?_, ?_, ?_, ?_, trivial⟩, fun vs W γ hT hJ hp => ?_⟩ ?_
    · refine owes_plainG rfl fun dn a W γ hT hdn hdp hJ hf hd => ?_
      have e8 := hf 8 rfl
      exact step_val (w' := W) (by simp only [execOp]; go_simp) ⟨γ, newT_refl _ _, trivial, rfl⟩
    · refine owes_plainG rfl fun dn a W γ hT hdn hdp hJ hf hd => ?_
      obtain ⟨v0, d0, rfl⟩ := hd 0 rfl
      exact step_val (w' := W) (by simp only [execOp]; go_simp) ⟨γ, newT_refl _ _, trivial, rfl⟩
    · refine owes_plainG rfl fun dn a W γ hT hdn hdp hJ hf hd => ?_
      obtain ⟨v1, d1, rfl⟩ := hd 1 rfl
      exact step_val (w' := W) (by simp only [execOp]; go_simp) ⟨γ, newT_refl _ _, trivial, rfl⟩
    iterate 7 (refine owes_notG rfl rfl (fun v w γ h => by rw [show v = .bool false from h]; simp) (fun _ _ => trivial) (fun _ _ _ _ _ => trivial))
    · refine owes_plainG rfl fun dn a W γ hT hdn hdp hJ hf hd => ?_
      obtain ⟨v2, d2, rfl⟩ := hd 2 rfl
      exact step_val (w' := W) (by simp only [execOp]; go_simp) ⟨γ, newT_refl _ _, trivial, rfl⟩
    · exact hp 10 rfl
    · intro vs W γ hT hvs
      have b3 := Lib.hid (b3.out.below (newT_nm hT))
      have n9 : NewMem w W := NewMem.trans _ _ _ n3 (newT_nm hT)
      simp only [laid, Nat.reduceAdd, hvs]
      clear hT hvs
      go_wp2_with (refine at_store 31 ?_; refine wpList_store_row rfl 31 _ _ rfl (w.heap.size + 3) (bc Z32).toArray rfl rfl _ _ b3.out (by kernel_rfl) rfl (bc_all _) ?_)
      refine bodyPost_ret (run_results2 rfl _ _ (w.heap.size + 3) 31 (bc Z32).toArray _ rfl (b3.out.setRow _) Tryd.underlying31 rfl (by kernel_rfl)) rfl ?_
      exact ⟨by rw [E1 (), E2 ()]; rfl, below_setRow_own n9 (by omega) _⟩
  rw [if_pos hk2] at hNd
  rw [hk2] at p0
  have hq := (b2.out.cell 0).trans p0
  clear hk2
  go_wp2_with fail
  clear hq
  obtain ⟨z, hz⟩ : ∃ z, z = ansF key h p := ⟨_, rfl⟩
  have hzl : z.length = 16 := by rw [hz]; exact ansF_length _ _ _
  have HZ := fun _ : Unit => hz
  have HZL := fun _ : Unit => hzl
  rw [← hz] at hNd
  clear hz hzl
  have HND := fun _ : Unit => hNd
  have HSD := fun _ : Unit => hSd
  clear hNd hSd
  refine region_toG (T := newT) (J := noJ) newT_trans newT_refl () (fun vs W γ => vs 10 = .bool (!decide (p.mrk = z))) (by kernel_rfl) (by kernel_rfl) (by kernel_rfl) trivial ⟨prOfG
    ([.is (.int .i64 0), .is (.bool true), .is (.bool true), .is (.pointer (some ⟨w.heap.size + 2, 21, none⟩)), .is (.agg (bc p.mrk).toArray), .is (.agg (bc key).toArray), .is (.agg X), .is (.agg Y), .is (.agg (bc z).toArray), .is (.bool (!decide (p.mrk = z))), .is (.bool (!decide (p.mrk = z)))] : List (PrG newT)), prOfG_st _, no_none (by kernel_rfl), ⟨?_, ?_, ?_, ?_, ?_, ?_, ?_, ?_, ?_, ?_, ?_, trivial⟩, fun vs W γ hT hJ hp => ?_⟩ ?_
  · refine owes_plainG rfl fun dn a W γ hT hdn hdp hJ hf hd => ?_
    have e8 := hf 8 rfl
    exact step_val (w' := W) (by simp only [execOp]; go_simp) ⟨γ, newT_refl _ _, trivial, rfl⟩
  · refine owes_plainG rfl fun dn a W γ hT hdn hdp hJ hf hd => ?_
    obtain ⟨v0, d0, rfl⟩ := hd 0 rfl
    exact step_val (w' := W) (by simp only [execOp]; go_simp) ⟨γ, newT_refl _ _, trivial, rfl⟩
  · refine owes_plainG rfl fun dn a W γ hT hdn hdp hJ hf hd => ?_
    obtain ⟨v1, d1, rfl⟩ := hd 1 rfl
    exact step_val (w' := W) (by simp only [execOp]; go_simp) ⟨γ, newT_refl _ _, trivial, rfl⟩
  · refine owes_ifG rfl rfl (fun v w γ h => h) fun dn a W γ hT hdn hdp hJ hf hd => ?_
    have e5 := hf 5 rfl
    exact step_val (w' := W) (by simp only [execOp]; go_simp) ⟨γ, newT_refl _ _, trivial, rfl⟩
  · refine owes_ifG rfl rfl (fun v w γ h => h) fun dn a W γ hT hdn hdp hJ hf hd => ?_
    obtain ⟨v3, d3, rfl⟩ := hd 3 rfl
    have hb := b2.out.below (newT_nm hT)
    exact step_load_at 24 _ rfl ((eval_slot _ 27).trans d3) (rd_blk_at hb 21 _ (pxm ())) Tryd.underlying24 rfl (by rw [bc_length, pml ()]; kernel_rfl) ⟨γ, newT_refl _ _, trivial, rfl⟩
  · refine owes_ifG rfl rfl (fun v w γ h => h) fun dn a W γ hT hdn hdp hJ hf hd => ?_
    have e3 := hf 3 rfl
    exact step_load_row 31 _ rfl ((eval_slot _ 3).trans e3) (b0.out.below (newT_nm hT)) Tryd.underlying31 rfl (by rw [HKS ()]; kernel_rfl) ⟨γ, newT_refl _ _, trivial, rfl⟩
  · refine owes_ifG rfl rfl (fun v w γ h => h) fun dn a W γ hT hdn hdp hJ hf hd => ?_
    have e4 := hf 4 rfl
    exact step_load_row 27 _ rfl ((eval_slot _ 4).trans e4) (b1.out.below (newT_nm hT)) Tryd.underlying27 rfl (by rw [HXS ()]; kernel_rfl) ⟨γ, newT_refl _ _, trivial, rfl⟩
  · refine owes_ifG rfl rfl (fun v w γ h => h) fun dn a W γ hT hdn hdp hJ hf hd => ?_
    have e5 := hf 5 rfl
    exact step_load_row 27 _ rfl ((eval_slot _ 5).trans e5) (b2.out.below (newT_nm hT)) Tryd.underlying27 rfl (by rw [HYS ()]; kernel_rfl) ⟨γ, newT_refl _ _, trivial, rfl⟩
  · refine owes_ifG rfl rfl (fun v w γ h => h) fun dn a W γ hT hdn hdp hJ hf hd => ?_
    obtain ⟨v5, d5, rfl⟩ := hd 5 rfl
    obtain ⟨v6, d6, rfl⟩ := hd 6 rfl
    obtain ⟨v7, d7, rfl⟩ := hd 7 rfl
    refine step_call (w' := W) (f := 34) (args := #[.agg (bc key).toArray, .agg X, .agg Y]) (by simp only [execOp]; go_simp) ?_
    rw [HX (), HY ()]
    refine (ramark_calls key (HK ()) h p (HH ()) (HP ()) W ((HG.out.below n3).below (newT_nm hT))).mono ?_
    rintro e w' ⟨rfl, hb⟩
    exact ⟨_, rfl, γ, hb, trivial, by rw [HZ ()]; rfl⟩
  · refine owes_ifG rfl rfl (fun v w γ h => h) fun dn a W γ hT hdn hdp hJ hf hd => ?_
    obtain ⟨v4, d4, rfl⟩ := hd 4 rfl
    obtain ⟨v8, d8, rfl⟩ := hd 8 rfl
    have hq := eq16 W p.mrk z (pml ()) (HZL ())
    exact step_val (w' := W) (by simp only [execOp]; go_simp) ⟨γ, newT_refl _ _, trivial, rfl⟩
  · refine owes_plainG rfl fun dn a W γ hT hdn hdp hJ hf hd => ?_
    obtain ⟨v2, d2, rfl⟩ := hd 2 rfl
    obtain ⟨v9, d9, rfl⟩ := hd 9 rfl
    exact step_val (w' := W) (by simp only [execOp]; go_simp) ⟨γ, newT_refl _ _, trivial, rfl⟩
  · exact hp 10 rfl
  · intro vs W γ hT hvs
    have b0 := Lib.hid (b0.out.below (newT_nm hT))
    have b1 := Lib.hid (b1.out.below (newT_nm hT))
    have b2 := Lib.hid (b2.out.below (newT_nm hT))
    have b3 := Lib.hid (b3.out.below (newT_nm hT))
    have n4 : NewMem w W := NewMem.trans _ _ _ n3 (newT_nm hT)
    simp only [laid, Nat.reduceAdd, hvs]
    clear hvs hT n3
    by_cases hm : p.mrk = z
    · have e1 : N = 0 := by rw [HND (), if_pos hm]
      have e2 : S = secF key h p := by rw [HSD (), e1]; rfl
      have E1 := fun _ : Unit => e1
      have E2 := fun _ : Unit => e2
      have ZS : Unit → (bc S).toArray.size = 32 := fun _ => by rw [e2, List.size_toArray, bc_length, secF_length]
      rw [decide_eq_true hm]
      clear hm e1 e2
      simp only [Bool.not_true]
      go_wp2_with (first | (refine at_slot 39 ?_; refine wpList_load_row rfl 31 _ rfl w.heap.size rfl _ (bc key).toArray (0, 0) _ b0.out Tryd.underlying31 rfl (by rw [HKS ()]; kernel_rfl) ?_) | (refine at_slot 40 ?_; refine wpList_load_row rfl 27 _ rfl (w.heap.size + 1) rfl _ X (0, 0) _ b1.out Tryd.underlying27 rfl (by rw [HXS ()]; kernel_rfl) ?_) | (refine at_slot 41 ?_; refine wpList_load_row rfl 27 _ rfl (w.heap.size + 2) rfl _ Y (0, 0) _ b2.out Tryd.underlying27 rfl (by rw [HYS ()]; kernel_rfl) ?_))
      rw [HX (), HY ()]
      refine (rsecret_calls key (HK ()) h p (HH ()) (HP ()) _ (HG.out.below n4)).mono ?_
      rw [← E2 ()]
      rintro e w5 ⟨rfl, hb5⟩
      have b3 := Lib.hid (b3.out.below hb5)
      have n5 : NewMem w w5 := NewMem.trans _ _ _ n4 hb5
      clear n4 hb5
      go_wp2_with (refine at_store 31 ?_; refine wpList_store_row rfl 31 _ _ rfl (w.heap.size + 3) (bc S).toArray rfl rfl _ _ b3.out (by rw [ZS ()]; kernel_rfl) (by rw [ZS ()]; rfl) (bc_all _) ?_)
      refine bodyPost_ret (run_results2 rfl _ _ (w.heap.size + 3) 31 (bc S).toArray _ rfl (b3.out.setRow _) Tryd.underlying31 rfl (by rw [ZS ()]; kernel_rfl)) rfl ?_
      exact ⟨by rw [E1 ()]; rfl, below_setRow_own n5 (by omega) _⟩
    · have e1 : N = 12 := by rw [HND (), if_neg hm]
      have e2 : S = Z32 := by rw [HSD (), e1]; rfl
      have E1 := fun _ : Unit => e1
      have E2 := fun _ : Unit => e2
      rw [decide_eq_false hm]
      clear hm e1 e2
      simp only [Bool.not_false]
      go_wp2_with (refine at_store 31 ?_; refine wpList_store_row rfl 31 _ _ rfl (w.heap.size + 3) (bc Z32).toArray rfl rfl _ _ b3.out (by kernel_rfl) rfl (bc_all _) ?_)
      refine bodyPost_ret (run_results2 rfl _ _ (w.heap.size + 3) 31 (bc Z32).toArray _ rfl (b3.out.setRow _) Tryd.underlying31 rfl (by kernel_rfl)) rfl ?_
      exact ⟨by rw [E1 (), E2 ()]; rfl, below_setRow_own n4 (by omega) _⟩
end Go.Proofs.YtbhaekdfpfncnaaDoor
