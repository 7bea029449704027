/- octet.table and octet.Sum: the checksum of all bytes. -/
import Derived.Test.YtfkbmnlohaghbaaOctA
import Derived.Test.YtfkbmnlohaghbaaCrc
import Derived.Deep.LoopGhost
import Derived.Deep.WholeRow
namespace Go.Proofs.Ytfkbmnlohaghbaa
set_option linter.unusedVariables false
set_option linter.unusedSimpArgs false
open Go.RowKit

def tabL (k : Nat) : List Value := (List.range 16).map fun j => .int .u32 ((if j < k then tabN j else 0 : Nat) : Int)
def tabA (k : Nat) : Array Value := (tabL k).toArray

theorem and1 (y : Nat) (hy : y < 4294967296) : bits .and .u32 (y : Int) 1 = ((y % 2 : Nat) : Int) := by
  have := u32_and_nat y 1 hy (by omega)
  rw [Nat.and_one_is_mod] at this
  exact this
theorem tabL_set (k : Nat) (h : k < 16) : (tabA k).setIfInBounds k (.int .u32 (tabN k : Int)) = tabA (k + 1) := by
  apply Array.ext'
  rw [Array.toList_setIfInBounds]
  apply List.ext_getElem?
  intro j
  simp only [tabA, tabL, List.getElem?_set, List.length_map, List.length_range, List.getElem?_map, List.getElem?_range]
  by_cases hj : k = j
  · subst hj
    simp [h]
  · rw [if_neg hj]
    by_cases hj2 : j < 16
    · simp only [List.getElem?_range hj2, Option.map_some]
      congr 4
      simp only [eq_iff_iff]
      omega
    · simp [hj2]
theorem tabL_get (k j : Nat) (h : j < 16) : (tabA k)[j]? = some (.int .u32 ((if j < k then tabN j else 0 : Nat) : Int)) := by
  simp [tabA, tabL, h]

set_option maxHeartbeats 1000000 in
theorem table_calls (w : World) :
    Calls Try.prog 32 #[] w fun e w' => e = .returned (.agg (tabA 16)) ∧ Below w.heap.size w w' := by
  have h0 : tabA 0 = #[.int .u32 0, .int .u32 0, .int .u32 0, .int .u32 0, .int .u32 0, .int .u32 0, .int .u32 0, .int .u32 0, .int .u32 0, .int .u32 0, .int .u32 0, .int .u32 0, .int .u32 0, .int .u32 0, .int .u32 0, .int .u32 0] := rfl
  have H0 := Lib.hid h0
  clear h0
  go_enter Try.func32, Try.ntmps32
  go_wp2
  go_loopw [3] (fun i wr => ∃ k : Nat, k ≤ 16 ∧ i = .int .i64 k ∧ Blk wr w.heap.size 58 (tabA k) ∧ Below w.heap.size w wr) (fun i _ => 16 - (intOf i).toNat)
  case atStart => exact ⟨0, by omega, rfl, by rw [H0.out]; exact Blk.new _ _ _, (Below.refl _ _).alloc (Nat.le_refl _) _⟩
  case round =>
    obtain ⟨k, hk, rfl, hb, hbel⟩ := hrel
    by_cases hlt : k < 16
    · have HB := Lib.hid hb
      clear hb
      go_wp2
      go_loop [2, 8] (fun x i => ∃ j y : Nat, j ≤ 4 ∧ i = .int .i64 j ∧ y < 4294967296 ∧ stps (4 - j) y = tabN k ∧ x = .int .u32 y) (fun _ i => 4 - (intOf i).toNat)
      case atStart => exact ⟨0, k, by omega, rfl, by omega, rfl, rfl⟩
      case round =>
        obtain ⟨j, y, hj, rfl, hy, hst, rfl⟩ := hrel
        have HS := Lib.hid hst
        clear hst
        by_cases hj4 : j < 4
        · go_wp2
          · have ht : (bits BinOp.and IntKind.u32 (y : Int) 1 == 1) = true := by assumption
            rw [and1 y hy] at ht
            have ht' : y % 2 = 1 := by have := beq_iff_eq.1 ht; omega
            go_round
            case rel =>
              refine ⟨j + 1, stp y, by omega, by go_num, stp_lt hy, ?_, ?_⟩
              · rw [← HS.out, show 4 - j = (4 - (j + 1)) + 1 from by omega]; rfl
              · unfold stp; rw [if_pos ht', ← u32_xor_nat _ _ (by omega) (by omega)]; rfl
            case measure => simp [intOf]; omega
          · have ht : (bits BinOp.and IntKind.u32 (y : Int) 1 == 1) = false := by assumption
            rw [and1 y hy] at ht
            have ht' : ¬ y % 2 = 1 := by have := beq_eq_false_iff_ne.1 ht; omega
            go_round
            case rel =>
              refine ⟨j + 1, stp y, by omega, by go_num, stp_lt hy, ?_, ?_⟩
              · rw [← HS.out, show 4 - j = (4 - (j + 1)) + 1 from by omega]; rfl
              · unfold stp; rw [if_neg ht']; rfl
            case measure => simp [intOf]; omega
        · have hj5 : j = 4 := by omega
          subst hj5
          have hy5 : y = tabN k := HS.out
          subst hy5
          have hc1 : wr.cell? ⟨w.heap.size, k, none⟩ = some (.int .u32 ((if k < k then tabN k else 0 : Nat) : Int)) := (HB.out.cell k).trans (tabL_get k k hlt)
          have hc2 := HB.out.frozen k
          go_wp2
          go_roundw
          case rel => exact ⟨k + 1, by omega, by go_num, by rw [← tabL_set k hlt]; exact HB.out.set_ k _, hbel.setCell (Nat.le_refl _) _⟩
          case measure => simp [intOf]; omega
    · have hk16 : k = 16 := by omega
      subst hk16
      have HB := Lib.hid hb
      clear hb
      go_wp2_with (first
        | (refine wpList_load_row rfl 58 _ rfl w.heap.size rfl 58 (tabA 16) (0, 0) _ HB.out Try.underlying58 rfl (by kernel_rfl) ?_)
        | (refine wpList_store_row rfl 58 _ _ rfl w.heap.size (tabA 16) rfl rfl 58 (tabA 16) HB.out (by kernel_rfl) rfl (by kernel_rfl) ?_))
      rw [setRow_self wr w.heap.size (tabA 16) 58 (0, 0) HB.out]
      refine bodyPost_ret (results_cell_row rfl _ _ w.heap.size 58 (tabA 16) (0, 0) _ rfl HB.out Try.underlying58 rfl (by kernel_rfl)) rfl ?_
      exact ⟨rfl, hbel⟩

theorem u32_xor_lt {a b : Nat} (ha : a < 4294967296) (hb : b < 4294967296) : bits .xor .u32 (a : Int) (b : Int) = ((a ^^^ b : Nat) : Int) := u32_xor_nat a b ha hb

set_option maxHeartbeats 1000000 in
/-- octet.Sum of slices of bytes. -/
theorem sum_calls (A : Option Addr) (ls : List (List UInt8)) (c : Nat) (w : World) (F : Nat → Prop) (hr : RdL w F A ls) (hl : ls.length ≤ 140737488351232) (hl2 : ∀ l ∈ ls, l.length ≤ 140737488351232) :
    Calls Try.prog 20 #[.slice A ls.length c] w fun e w' => e = .returned (.int .u32 (crc ls.flatten : Int)) ∧ Below w.heap.size w w' := by
  go_enter Try.func20, Try.ntmps20
  go_wp2_with (first
    | (go_at_call 32; refine (table_calls _).mono ?_; rintro e w1 ⟨rfl, hb1⟩)
    | (refine wpList_store_row rfl 58 _ _ rfl w1.heap.size (tabA 16) rfl rfl 58 _ (heap_alloc_new w1 _) (by kernel_rfl) rfl (by kernel_rfl) ?_; rw [World.setRow_alloc_new]))
  have hB := Blk.new w1 58 (tabA 16)
  have hbW : Below w.heap.size w (w1.alloc (.cells (tabA 16) 58)) := hb1.alloc hb1.size _
  have hrW : RdL (w1.alloc (.cells (tabA 16) 58)) F A ls := hr.keep (S := fun _ => False) ((Fr.new hb1).alloc _) fun _ _ _ h => h
  obtain ⟨g, hg⟩ : ∃ g, g = w1.heap.size := ⟨_, rfl⟩
  rw [← hg] at hB ⊢
  generalize w1.alloc (Obj.cells (tabA 16) 58) = W at hB hbW hrW ⊢
  clear hg hr hb1
  have HB := Lib.hid hB
  have HR := Lib.hid hrW
  have HL := Lib.hid hl2
  clear hB hrW hl2
  go_loop [3, 12] (fun x i => ∃ k y : Nat, k ≤ ls.length ∧ i = .int .i64 k ∧ y < 4294967296 ∧ y = crcF 4294967295 (ls.take k).flatten ∧ x = .int .u32 y) (fun _ i => ls.length - (intOf i).toNat)
  case atStart => exact ⟨0, 4294967295, by omega, rfl, by omega, rfl, rfl⟩
  case round =>
    obtain ⟨k, y, hk, rfl, hy, hyk, rfl⟩ := hrel
    have HY := Lib.hid hyk
    clear hyk
    by_cases hlt : k < ls.length
    · obtain ⟨b, off, rfl, _, hcell⟩ := HR.out.form (by omega)
      obtain ⟨a, c2, hc2, hra, hlc⟩ := hcell k ls[k] (List.getElem?_eq_getElem hlt)
      have hll := HL.out ls[k] (List.getElem_mem _)
      obtain ⟨l, hl'⟩ : ∃ l, l = ls[k] := ⟨_, rfl⟩
      rw [← hl'] at hc2 hra hll hlc
      have HE := Lib.hid hl'
      have HA := Lib.hid hra
      clear hcell hl' hra
      go_wp2
      go_loop [3, 18] (fun x i => ∃ j z : Nat, j ≤ l.length ∧ i = .int .i64 j ∧ z < 4294967296 ∧ z = crcF y (l.take j) ∧ x = .int .u32 z) (fun _ i => l.length - (intOf i).toNat)
      case atStart => exact ⟨0, y, by omega, rfl, hy, rfl, rfl⟩
      case round =>
        obtain ⟨j, z, hj, rfl, hz, hzj, rfl⟩ := hrel
        have HZ := Lib.hid hzj
        clear hzj
        by_cases hjl : j < l.length
        · obtain ⟨b2, off2, rfl, _, hcell⟩ := HA.out.form (by simp; omega)
          have hcj := hcell j _ (bc_get l j hjl)
          obtain ⟨ch, hch⟩ : ∃ ch, ch = l[j] := ⟨_, rfl⟩
          rw [← hch] at hcj
          have HC := Lib.hid hch
          have hchl := ch.toNat_lt
          clear hch hcell
          have e1 := u32_xor_lt hz (show ch.toNat < 4294967296 by omega)
          have l1 := xor_lt32 hz (show ch.toNat < 4294967296 by omega)
          obtain ⟨y1, hy1⟩ : ∃ y1, y1 = z ^^^ ch.toNat := ⟨_, rfl⟩
          rw [← hy1] at e1 l1
          have t1 := tabN_lt (y1 % 16) (by omega)
          have c1 : W.cell? ⟨g, y1 % 16, none⟩ = some (.int .u32 (tabN (y1 % 16) : Int)) := ((HB.out.cell _).trans (tabL_get 16 (y1 % 16) (by omega))).trans (by rw [if_pos (by omega)])
          obtain ⟨v1, hv1⟩ : ∃ v1, v1 = tabN (y1 % 16) := ⟨_, rfl⟩
          rw [← hv1] at t1 c1
          have e2 : bits .xor .u32 ((y1 : Int) / 16) (v1 : Int) = ((y1 / 16 ^^^ v1 : Nat) : Int) := u32_xor_lt (show y1 / 16 < 4294967296 by omega) t1
          have l2 := xor_lt32 (show y1 / 16 < 4294967296 by omega) t1
          obtain ⟨y2, hy2⟩ : ∃ y2, y2 = (y1 / 16) ^^^ v1 := ⟨_, rfl⟩
          rw [← hy2] at e2 l2
          have t2 := tabN_lt (y2 % 16) (by omega)
          have c2 : W.cell? ⟨g, y2 % 16, none⟩ = some (.int .u32 (tabN (y2 % 16) : Int)) := ((HB.out.cell _).trans (tabL_get 16 (y2 % 16) (by omega))).trans (by rw [if_pos (by omega)])
          obtain ⟨v2, hv2⟩ : ∃ v2, v2 = tabN (y2 % 16) := ⟨_, rfl⟩
          rw [← hv2] at t2 c2
          have e3 : bits .xor .u32 ((y2 : Int) / 16) (v2 : Int) = ((y2 / 16 ^^^ v2 : Nat) : Int) := u32_xor_lt (show y2 / 16 < 4294967296 by omega) t2
          have l3 := xor_lt32 (show y2 / 16 < 4294967296 by omega) t2
          obtain ⟨y3, hy3⟩ : ∃ y3, y3 = (y2 / 16) ^^^ v2 := ⟨_, rfl⟩
          rw [← hy3] at e3 l3
          have hst : y3 = stpB z ch := by rw [stpB_nibbles, nibble, ← hy1, ← hv1, ← hy2, ← hv2, ← hy3]
          have HS := Lib.hid hst
          clear hy1 hv1 hy2 hv2 hy3 hst
          go_wp2
          go_round
          case rel =>
            refine ⟨j + 1, y3, by omega, by go_num, l3, ?_, rfl⟩
            rw [List.take_succ_eq_append_getElem hjl, crcF_snoc, ← HC.out, ← HZ.out, HS.out]
          case measure => simp [intOf]; omega
        · have hj2 : j = l.length := by omega
          subst hj2
          go_wp2
          go_round
          case rel =>
            refine ⟨k + 1, z, by omega, by go_num, hz, ?_, rfl⟩
            rw [HZ.out, List.take_length, HY.out, ← crcF_append, List.take_succ_eq_append_getElem hlt, List.flatten_append, ← HE.out]
            simp
          case measure => simp [intOf]; omega
    · have hk2 : k = ls.length := by omega
      subst hk2
      have hy' : y = crcF 4294967295 ls.flatten := by rw [HY.out, List.take_length]
      have e1 : bits .xor .u32 IntKind.u32.max (y : Int) = ((4294967295 - y : Nat) : Int) := by
        rw [← not32 y hy, ← u32_xor_nat _ _ (by omega) hy]; rfl
      have HE := Lib.hid e1
      have HY' := Lib.hid hy'
      clear e1 hy'
      go_wp2
      go_ret
      refine ⟨?_, hbW⟩
      unfold crc
      rw [← HY'.out, ← HE.out]
      rfl
end Go.Proofs.Ytfkbmnlohaghbaa
