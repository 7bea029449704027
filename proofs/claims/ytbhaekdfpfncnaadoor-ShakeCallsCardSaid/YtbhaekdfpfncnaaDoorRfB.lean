/- drawbridgeref10.big: a number's bytes, the highest first. -/
import Derived.Test.YtbhaekdfpfncnaaDoorRfC
import Derived.Test.YtbhaekdfpfncnaaDoorShA
namespace Go.Proofs.YtbhaekdfpfncnaaDoor
set_option linter.unusedVariables false
set_option linter.unusedSimpArgs false
open Go.RowKit

theorem be_step (n x : Nat) : ∀ j, j + 1 ≤ n → (be n x).take (n - j) = (be n x).take (n - (j + 1)) ++ [UInt8.ofNat (x / 256 ^ j)] := by
  intro j hj
  rw [show n - j = (n - (j + 1)) + 1 from by omega, List.take_add_one, be_get n x (n - (j + 1)) (by omega), show n - 1 - (n - (j + 1)) = j from by omega]
  rfl
set_option maxHeartbeats 1000000 in
theorem big_calls (n x : Nat) (w : World) (hn : n ≤ 8) (hx : x < 18446744073709551616) :
    Calls Tryd.prog 33 #[.int .u64 (x : Int), .int .i64 (n : Int)] w fun e w' => ∃ A c, e = .returned (.slice A (be n x).length c) ∧ w'.ownsRow w.heap.size 5 1 (.slice A (be n x).length c) (be n x).length (bc (be n x)) ∧ Below w.heap.size w w' := by
  obtain ⟨i0, hi0, hz0, hz1, hz2⟩ := info_parts info_u8
  go_enter Tryd.func33, Tryd.ntmps33
  go_wp2
  go_loopw [5, 6] (fun b i wr => ∃ (j : Nat) (A' : Option Addr) (c' : Nat), j ≤ n ∧ i = .int .i64 ((j : Int) - 1) ∧ b = .slice A' ((be n x).take (n - j)).length c' ∧ wr.ownsRow w.heap.size 5 1 (.slice A' ((be n x).take (n - j)).length c') ((be n x).take (n - j)).length (bc ((be n x).take (n - j))) ∧ Below w.heap.size w wr) (fun _ i _ => (intOf i + 1).toNat)
  case atStart => exact ⟨n, none, 0, Nat.le_refl _, by go_num, by simp, by simp [World.ownsRow], Below.refl _ _⟩
  case round =>
    obtain ⟨j, A', c', hj, hi, rfl, hown, hb⟩ := hrel
    cases j with
    | zero =>
      rw [show (((0 : Nat) : Int) - 1) = -1 from rfl] at hi
      subst hi
      go_wp2
      go_ret
      have e : (be n x).take (n - 0) = be n x := by rw [Nat.sub_zero, List.take_of_length_le (by simp [be_length])]
      rw [e] at hown
      exact ⟨A', c', by rw [e]; rfl, hown, hb⟩
    | succ j =>
      rw [show (((j + 1 : Nat) : Int) - 1) = (j : Int) from by omega] at hi
      subst hi
      obtain ⟨q, hq⟩ : ∃ q, q = (be n x).take (n - (j + 1)) := ⟨_, rfl⟩
      have hs := be_step n x j hj
      have hql : q.length ≤ 8 := by rw [hq]; simp; omega
      rw [← hq] at hown hs ⊢
      have HQ := Lib.hid hq
      have HS := Lib.hid hs
      clear hq hs
      have hj8 : j ≤ 7 := by omega
      go_wp2_with (at_builtin; refine wpList_append_rd _ rfl (.tmp 13) (.tmp 20) _ rfl w.heap.size 5 i0 _ 1 Tryd.underlying25 hi0 hz0 hz1 hz2 rfl (.slice A' q.length c') q.length (bc q) rfl (hown.alloc _) _ (some ⟨wr.heap.size, 0, none⟩) 1 1 [_] rfl rfl (rd_one wr _ _) (one_of_int _ _) (by simp [maxLen]; omega) (by simp; omega) (by have := hb.size; simp; omega) ?_; intro v3 w3 hown3 hg3 hat3)
      rw [shr_byte] at hown3
      have hpc : bc q ++ [Value.int IntKind.u8 ((UInt8.ofNat (x / 256 ^ j)).toNat : Int)] = bc (q ++ [UInt8.ofNat (x / 256 ^ j)]) := by rw [bc_append]; rfl
      have hq2 : q ++ [UInt8.ofNat (x / 256 ^ j)] = (be n x).take (n - j) := HS.out.symm
      have hpl : q.length + [Value.int IntKind.u8 ((UInt8.ofNat (x / 256 ^ j)).toNat : Int)].length = ((be n x).take (n - j)).length := by rw [← hq2]; simp
      rw [hpc, hpl, hq2] at hown3
      have hb3 : Below w.heap.size w w3 := (hb.alloc hb.size _).grown hg3 (by have := hb.size; simp; omega) (fun k hk => (hown.lt k hk).1)
      obtain ⟨A3, c3, rfl, _⟩ := own_shape hown3
      have HQ2 := Lib.hid hq2
      have HO := Lib.hid hown3
      clear hpc hpl hq2 hg3 hat3 hown hown3
      go_wp2
      go_roundw
      case rel => exact ⟨j, A3, c3, by omega, rfl, rfl, HO.out, hb3⟩
      case measure => simp [intOf]
end Go.Proofs.YtbhaekdfpfncnaaDoor
