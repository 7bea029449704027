/- shake.high at both widths. -/
import Derived.Test.YtbhaekdfpfncnaaDoorEq
import Derived.Test.YtbhaekdfpfncnaaDoorHkE
namespace Go.Proofs.YtbhaekdfpfncnaaDoor
set_option linter.unusedVariables false
set_option linter.unusedSimpArgs false
open Go.RowKit

/-- The first k of n bytes of a number, then zeros. -/
def hiP (n x k : Nat) : List UInt8 := (be n x).take k ++ List.replicate (n - k) 0
theorem hiP_length (n x k : Nat) (h : k ≤ n) : (hiP n x k).length = n := by simp [hiP, be_length]; omega
theorem hiP_all (n x : Nat) : hiP n x n = be n x := by simp [hiP, List.take_of_length_le (Nat.le_of_eq (be_length n x))]
theorem hiP_set (n x k : Nat) (h : k < n) : (hiP n x k).set k (UInt8.ofNat (x / 256 ^ (n - 1 - k))) = hiP n x (k + 1) := by
  unfold hiP
  rw [List.take_add_one, be_get n x k h, show n - k = (n - (k + 1)) + 1 from by omega, List.replicate_succ, List.set_append_right _ _ (by rw [List.length_take]; omega), List.length_take, be_length, Nat.min_eq_left (by omega), Nat.sub_self, List.set_cons_zero, List.append_assoc]
  rfl
theorem mk4 (w : World) : (Instr.makeSlice 25 (.int .i64 4) (.int .i64 4)).run Tryd.prog w = .ok (.slice (some ⟨w.heap.size, 0, none⟩) 4 4) (w.alloc (.cells (bc (List.replicate 4 0)).toArray 5)) := by kernel_rfl
set_option maxHeartbeats 1000000 in
theorem high32_calls (x : Nat) (w : World) (hx : x < 4294967296) :
    Calls Tryd.prog 24 #[.int .u32 (x : Int)] w fun e w' => e = .returned (.slice (some ⟨w.heap.size, 0, none⟩) 4 4) ∧ Blk w' w.heap.size 5 (bc (be 4 x)).toArray ∧ NewMem w w' := by
  have hmk := mk4
  go_enter Tryd.func24, Tryd.ntmps24
  go_wp2_with fail
  clear hmk
  generalize hw1 : World.alloc w _ = w1
  have b1 : Hid (Blk w1 w.heap.size 5 (bc (hiP 4 x 0)).toArray) := by show Blk _ _ _ _; rw [← hw1]; exact Blk.new _ _ _
  have n1 : NewMem w w1 := by rw [← hw1]; exact NewMem.alloc _ _
  clear hw1
  go_loopw [5, 15] (fun y i wr => ∃ k : Nat, k ≤ 4 ∧ i = .int .i64 k ∧ Hid (Blk wr w.heap.size 5 (bc (hiP 4 x k)).toArray) ∧ Hid (NewMem w wr)) (fun _ i _ => 4 - (intOf i).toNat)
  case atStart => exact ⟨0, by omega, rfl, b1, n1⟩
  case round =>
    clear b1 n1
    obtain ⟨k, hk, rfl, hB, hN⟩ := hrel
    by_cases hlt : k < 4
    · have hst := hiP_set 4 x k hlt
      have hco := (hB.out.cell k).trans ((List.getElem?_toArray ..).trans (bc_get _ k (by rw [hiP_length _ _ _ hk]; exact hlt)))
      have hfo := hB.out.frozen k
      generalize (hiP 4 x k)[k]'_ = y0 at hco
      obtain rfl | rfl | rfl | rfl : k = 0 ∨ k = 1 ∨ k = 2 ∨ k = 3 := by omega
      · have he : ((UInt8.ofNat (x / 256 ^ (4 - 1 - 0))).toNat : Int) = (x : Int) / 16777216 := by rw [UInt8.toNat_ofNat']; omega
        have hb := hB.out.set_ 0 (.int .u8 ((UInt8.ofNat (x / 256 ^ (4 - 1 - 0))).toNat : Int))
        rw [bc_aset, hst, he] at hb
        have HBN := Lib.hid hb
        clear he hb hst
        go_wp2_with fail
        go_roundw
        case rel => exact ⟨1, by omega, by go_num, HBN.out, hN.out.setCell (Nat.le_refl _) _⟩
        case measure => simp [intOf]
      · have he : ((UInt8.ofNat (x / 256 ^ (4 - 1 - 1))).toNat : Int) = (x : Int) / 65536 % 256 := by rw [UInt8.toNat_ofNat']; omega
        have hb := hB.out.set_ 1 (.int .u8 ((UInt8.ofNat (x / 256 ^ (4 - 1 - 1))).toNat : Int))
        rw [bc_aset, hst, he] at hb
        have HBN := Lib.hid hb
        clear he hb hst
        go_wp2_with fail
        go_roundw
        case rel => exact ⟨2, by omega, by go_num, HBN.out, hN.out.setCell (Nat.le_refl _) _⟩
        case measure => simp [intOf]
      · have he : ((UInt8.ofNat (x / 256 ^ (4 - 1 - 2))).toNat : Int) = (x : Int) / 256 % 256 := by rw [UInt8.toNat_ofNat']; omega
        have hb := hB.out.set_ 2 (.int .u8 ((UInt8.ofNat (x / 256 ^ (4 - 1 - 2))).toNat : Int))
        rw [bc_aset, hst, he] at hb
        have HBN := Lib.hid hb
        clear he hb hst
        go_wp2_with fail
        go_roundw
        case rel => exact ⟨3, by omega, by go_num, HBN.out, hN.out.setCell (Nat.le_refl _) _⟩
        case measure => simp [intOf]
      · have he : ((UInt8.ofNat (x / 256 ^ (4 - 1 - 3))).toNat : Int) = (x : Int) % 256 := by rw [UInt8.toNat_ofNat']; omega
        have hb := hB.out.set_ 3 (.int .u8 ((UInt8.ofNat (x / 256 ^ (4 - 1 - 3))).toNat : Int))
        rw [bc_aset, hst, he] at hb
        have HBN := Lib.hid hb
        clear he hb hst
        go_wp2_with fail
        go_roundw
        case rel => exact ⟨4, by omega, by go_num, HBN.out, hN.out.setCell (Nat.le_refl _) _⟩
        case measure => simp [intOf]
    · have hkn : k = 4 := by omega
      subst hkn
      have hB' := hB.out
      rw [hiP_all] at hB'
      have HB := Lib.hid hB'
      clear hB hB'
      go_wp2_with fail
      go_ret
      exact ⟨rfl, HB.out, hN.out⟩
theorem mk8 (w : World) : (Instr.makeSlice 25 (.int .i64 8) (.int .i64 8)).run Tryd.prog w = .ok (.slice (some ⟨w.heap.size, 0, none⟩) 8 8) (w.alloc (.cells (bc (List.replicate 8 0)).toArray 5)) := by kernel_rfl
set_option maxHeartbeats 1000000 in
theorem high64_calls (x : Nat) (w : World) (hx : x < 18446744073709551616) :
    Calls Tryd.prog 31 #[.int .u64 (x : Int)] w fun e w' => e = .returned (.slice (some ⟨w.heap.size, 0, none⟩) 8 8) ∧ Blk w' w.heap.size 5 (bc (be 8 x)).toArray ∧ NewMem w w' := by
  have hmk := mk8
  go_enter Tryd.func31, Tryd.ntmps31
  go_wp2_with fail
  clear hmk
  generalize hw1 : World.alloc w _ = w1
  have b1 : Hid (Blk w1 w.heap.size 5 (bc (hiP 8 x 0)).toArray) := by show Blk _ _ _ _; rw [← hw1]; exact Blk.new _ _ _
  have n1 : NewMem w w1 := by rw [← hw1]; exact NewMem.alloc _ _
  clear hw1
  go_loopw [5, 15] (fun y i wr => ∃ k : Nat, k ≤ 8 ∧ i = .int .i64 k ∧ Hid (Blk wr w.heap.size 5 (bc (hiP 8 x k)).toArray) ∧ Hid (NewMem w wr)) (fun _ i _ => 8 - (intOf i).toNat)
  case atStart => exact ⟨0, by omega, rfl, b1, n1⟩
  case round =>
    clear b1 n1
    obtain ⟨k, hk, rfl, hB, hN⟩ := hrel
    by_cases hlt : k < 8
    · have hst := hiP_set 8 x k hlt
      have hco := (hB.out.cell k).trans ((List.getElem?_toArray ..).trans (bc_get _ k (by rw [hiP_length _ _ _ hk]; exact hlt)))
      have hfo := hB.out.frozen k
      generalize (hiP 8 x k)[k]'_ = y0 at hco
      obtain rfl | rfl | rfl | rfl | rfl | rfl | rfl | rfl : k = 0 ∨ k = 1 ∨ k = 2 ∨ k = 3 ∨ k = 4 ∨ k = 5 ∨ k = 6 ∨ k = 7 := by omega
      · have he : ((UInt8.ofNat (x / 256 ^ (8 - 1 - 0))).toNat : Int) = (x : Int) / 72057594037927936 := by rw [UInt8.toNat_ofNat']; omega
        have hb := hB.out.set_ 0 (.int .u8 ((UInt8.ofNat (x / 256 ^ (8 - 1 - 0))).toNat : Int))
        rw [bc_aset, hst, he] at hb
        have HBN := Lib.hid hb
        clear he hb hst
        go_wp2_with fail
        go_roundw
        case rel => exact ⟨1, by omega, by go_num, HBN.out, hN.out.setCell (Nat.le_refl _) _⟩
        case measure => simp [intOf]
      · have he : ((UInt8.ofNat (x / 256 ^ (8 - 1 - 1))).toNat : Int) = (x : Int) / 281474976710656 % 256 := by rw [UInt8.toNat_ofNat']; omega
        have hb := hB.out.set_ 1 (.int .u8 ((UInt8.ofNat (x / 256 ^ (8 - 1 - 1))).toNat : Int))
        rw [bc_aset, hst, he] at hb
        have HBN := Lib.hid hb
        clear he hb hst
        go_wp2_with fail
        go_roundw
        case rel => exact ⟨2, by omega, by go_num, HBN.out, hN.out.setCell (Nat.le_refl _) _⟩
        case measure => simp [intOf]
      · have he : ((UInt8.ofNat (x / 256 ^ (8 - 1 - 2))).toNat : Int) = (x : Int) / 1099511627776 % 256 := by rw [UInt8.toNat_ofNat']; omega
        have hb := hB.out.set_ 2 (.int .u8 ((UInt8.ofNat (x / 256 ^ (8 - 1 - 2))).toNat : Int))
        rw [bc_aset, hst, he] at hb
        have HBN := Lib.hid hb
        clear he hb hst
        go_wp2_with fail
        go_roundw
        case rel => exact ⟨3, by omega, by go_num, HBN.out, hN.out.setCell (Nat.le_refl _) _⟩
        case measure => simp [intOf]
      · have he : ((UInt8.ofNat (x / 256 ^ (8 - 1 - 3))).toNat : Int) = (x : Int) / 4294967296 % 256 := by rw [UInt8.toNat_ofNat']; omega
        have hb := hB.out.set_ 3 (.int .u8 ((UInt8.ofNat (x / 256 ^ (8 - 1 - 3))).toNat : Int))
        rw [bc_aset, hst, he] at hb
        have HBN := Lib.hid hb
        clear he hb hst
        go_wp2_with fail
        go_roundw
        case rel => exact ⟨4, by omega, by go_num, HBN.out, hN.out.setCell (Nat.le_refl _) _⟩
        case measure => simp [intOf]
      · have he : ((UInt8.ofNat (x / 256 ^ (8 - 1 - 4))).toNat : Int) = (x : Int) / 16777216 % 256 := by rw [UInt8.toNat_ofNat']; omega
        have hb := hB.out.set_ 4 (.int .u8 ((UInt8.ofNat (x / 256 ^ (8 - 1 - 4))).toNat : Int))
        rw [bc_aset, hst, he] at hb
        have HBN := Lib.hid hb
        clear he hb hst
        go_wp2_with fail
        go_roundw
        case rel => exact ⟨5, by omega, by go_num, HBN.out, hN.out.setCell (Nat.le_refl _) _⟩
        case measure => simp [intOf]
      · have he : ((UInt8.ofNat (x / 256 ^ (8 - 1 - 5))).toNat : Int) = (x : Int) / 65536 % 256 := by rw [UInt8.toNat_ofNat']; omega
        have hb := hB.out.set_ 5 (.int .u8 ((UInt8.ofNat (x / 256 ^ (8 - 1 - 5))).toNat : Int))
        rw [bc_aset, hst, he] at hb
        have HBN := Lib.hid hb
        clear he hb hst
        go_wp2_with fail
        go_roundw
        case rel => exact ⟨6, by omega, by go_num, HBN.out, hN.out.setCell (Nat.le_refl _) _⟩
        case measure => simp [intOf]
      · have he : ((UInt8.ofNat (x / 256 ^ (8 - 1 - 6))).toNat : Int) = (x : Int) / 256 % 256 := by rw [UInt8.toNat_ofNat']; omega
        have hb := hB.out.set_ 6 (.int .u8 ((UInt8.ofNat (x / 256 ^ (8 - 1 - 6))).toNat : Int))
        rw [bc_aset, hst, he] at hb
        have HBN := Lib.hid hb
        clear he hb hst
        go_wp2_with fail
        go_roundw
        case rel => exact ⟨7, by omega, by go_num, HBN.out, hN.out.setCell (Nat.le_refl _) _⟩
        case measure => simp [intOf]
      · have he : ((UInt8.ofNat (x / 256 ^ (8 - 1 - 7))).toNat : Int) = (x : Int) % 256 := by rw [UInt8.toNat_ofNat']; omega
        have hb := hB.out.set_ 7 (.int .u8 ((UInt8.ofNat (x / 256 ^ (8 - 1 - 7))).toNat : Int))
        rw [bc_aset, hst, he] at hb
        have HBN := Lib.hid hb
        clear he hb hst
        go_wp2_with fail
        go_roundw
        case rel => exact ⟨8, by omega, by go_num, HBN.out, hN.out.setCell (Nat.le_refl _) _⟩
        case measure => simp [intOf]
    · have hkn : k = 8 := by omega
      subst hkn
      have hB' := hB.out
      rw [hiP_all] at hB'
      have HB := Lib.hid hB'
      clear hB hB'
      go_wp2_with fail
      go_ret
      exact ⟨rfl, HB.out, hN.out⟩
end Go.Proofs.YtbhaekdfpfncnaaDoor
