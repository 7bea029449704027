/- Contract of octet.Number: the bytes before, and the bytes of the number behind them, in new memory. -/
import Derived.Test.YtfkbmnlohaghbaaOctA
import Derived.Test.YtfkbmnlohaghbaaPlain
namespace Go.Proofs.Ytfkbmnlohaghbaa
set_option linter.unusedVariables false
set_option linter.unusedSimpArgs false
open Go.RowKit

set_option maxHeartbeats 1000000 in
theorem number_calls (A : Option Addr) (l : List UInt8) (c x : Nat) (w : World) (F : Nat → Prop) (hr : Rd w F A (bc l)) (hl : l.length ≤ 140737488351232) (hx : x < 18446744073709551616) :
    Calls Try.prog 13 #[.slice A l.length c, .int .u64 (x : Int)] w fun e w' => ∃ A' c', e = .returned (.slice A' (l ++ num x).length c') ∧ w'.ownsRow w.heap.size 5 1 (.slice A' (l ++ num x).length c') (l ++ num x).length (bc (l ++ num x)) ∧ Below w.heap.size w w' := by
  obtain ⟨i0, hi0, hz0, hz1, hz2⟩ := info_parts info_u8
  have h8 := nlen_le8 hx
  go_enter Try.func13, Try.ntmps13
  go_wp2_with (go_at_call 29; refine (clone_calls A l c w F hr hl).mono ?_; rintro e w1 ⟨A1, c1, rfl, hown1, hb1⟩)
  go_loop [5, 6] (fun n y => ∃ k yy : Nat, yy ≤ x ∧ k + nlen yy = nlen x ∧ y = .int .u64 yy ∧ n = .int .i64 k) (fun _ y => (intOf y).toNat)
  case atStart => exact ⟨0, x, Nat.le_refl _, by simp, rfl, rfl⟩
  case round =>
    obtain ⟨k, yy, hyx, hk, rfl, rfl⟩ := hrel
    by_cases h0 : 0 < yy
    · have hn := nlen_pos h0
      have Hk := Lib.hid hk
      have Hn := Lib.hid hn
      clear hk hn
      have hk8 : k ≤ 8 := by have := Hk.out; omega
      go_wp2
      go_round
      case rel => exact ⟨k + 1, yy / 256, by omega, by have := Hk.out; have := Hn.out; omega, by go_num, by go_num⟩
      case measure => simp [intOf]; omega
    · have h1 : yy = 0 := by omega
      subst h1
      have hk1 : k = nlen x := by rw [nlen_zero] at hk; omega
      subst hk1
      clear hk
      go_wp2_with (at_builtin; refine wpList_append_rd _ rfl (.tmp 17) (.tmp 20) _ rfl w.heap.size 5 i0 _ 1 Try.underlying24 hi0 hz0 hz1 hz2 rfl (.slice A1 l.length c1) l.length (bc l) rfl (hown1.alloc _) _ (some ⟨w1.heap.size, 0, none⟩) 1 1 [_] rfl rfl (rd_one w1 _ _) (one_of_int _ _) (by simp [maxLen]; omega) (by simp; omega) (by have := hb1.size; simp; omega) ?_; intro v2 w2 hown2 hg2 hat2)
      obtain ⟨p, hp⟩ : ∃ p, p = l ++ [UInt8.ofNat (nlen x)] := ⟨_, rfl⟩
      have hpc : bc l ++ [Value.int IntKind.u8 ↑(nlen x)] = bc p := by
        have e8 : nlen x % 256 = nlen x := by omega
        rw [hp, bc_append]; simp [bc, e8]
      have hpl : l.length + [Value.int IntKind.u8 ↑(nlen x)].length = p.length := by rw [hp]; simp
      have hpb : p.length ≤ 140737488351233 := by rw [hp]; simp; omega
      rw [hpc, hpl] at hown2
      have hb2 : Below w.heap.size w w2 := (hb1.alloc hb1.size _).grown hg2 (by have := hb1.size; simp; omega) (fun k hk => (hown1.lt k hk).1)
      have HP := Lib.hid hp
      clear hp hpc hpl hg2 hat2 hown1 hr hb1
      obtain ⟨A2, c2, rfl, _⟩ := own_shape hown2
      go_wp2
      go_loopw [0, 7] (fun b i wr => ∃ (j : Nat) (A' : Option Addr) (c' : Nat), j ≤ nlen x ∧ i = .int .i64 ((j : Int) - 1) ∧ b = .slice A' (p ++ (be (nlen x) x).take (nlen x - j)).length c' ∧ wr.ownsRow w.heap.size 5 1 (.slice A' (p ++ (be (nlen x) x).take (nlen x - j)).length c') (p ++ (be (nlen x) x).take (nlen x - j)).length (bc (p ++ (be (nlen x) x).take (nlen x - j))) ∧ Below w.heap.size w wr) (fun _ i _ => (intOf i + 1).toNat)
      case atStart => exact ⟨nlen x, A2, c2, Nat.le_refl _, rfl, by simp, by simpa using hown2, hb2⟩
      case round =>
        clear hown2 hb2
        obtain ⟨j, A', c', hj, hi, rfl, hown, hb⟩ := hrel
        cases j with
        | zero =>
          rw [show (((0 : Nat) : Int) - 1) = -1 from rfl] at hi
          subst hi
          go_wp2
          go_ret
          have e : p ++ (be (nlen x) x).take (nlen x - 0) = l ++ num x := by rw [HP.out, Nat.sub_zero, List.take_of_length_le (by simp [be_length])]; simp [num]
          rw [e] at hown
          exact ⟨A', c', by rw [e]; rfl, hown, hb⟩
        | succ j =>
          rw [show (((j + 1 : Nat) : Int) - 1) = (j : Int) from by omega] at hi
          subst hi
          obtain ⟨q, hq⟩ : ∃ q, q = p ++ (be (nlen x) x).take (nlen x - (j + 1)) := ⟨_, rfl⟩
          have hs := be_take_succ (nlen x) x j hj
          have hql : q.length ≤ 140737488351250 := by rw [hq]; simp; omega
          rw [← hq] at hown ⊢
          have HQ := Lib.hid hq
          have HS := Lib.hid hs
          clear hq hs
          go_wp2_with (at_builtin; refine wpList_append_rd _ rfl (.tmp 28) (.tmp 35) _ rfl w.heap.size 5 i0 _ 1 Try.underlying24 hi0 hz0 hz1 hz2 rfl (.slice A' q.length c') q.length (bc q) rfl (hown.alloc _) _ (some ⟨wr.heap.size, 0, none⟩) 1 1 [_] rfl rfl (rd_one wr _ _) (one_of_int _ _) (by simp [maxLen]; omega) (by simp; omega) (by have := hb.size; simp; omega) ?_; intro v3 w3 hown3 hg3 hat3)
          rw [shr_byte] at hown3
          have hpc : bc q ++ [Value.int IntKind.u8 ((UInt8.ofNat (x / 256 ^ j)).toNat : Int)] = bc (q ++ [UInt8.ofNat (x / 256 ^ j)]) := by rw [bc_append]; rfl
          have hq2 : q ++ [UInt8.ofNat (x / 256 ^ j)] = p ++ (be (nlen x) x).take (nlen x - j) := by rw [HQ.out, HS.out, List.append_assoc]
          have hpl : q.length + [Value.int IntKind.u8 ((UInt8.ofNat (x / 256 ^ j)).toNat : Int)].length = (p ++ (be (nlen x) x).take (nlen x - j)).length := by rw [← hq2]; simp
          rw [hpc, hpl, hq2] at hown3
          have hb3 : Below w.heap.size w w3 := (hb.alloc hb.size _).grown hg3 (by have := hb.size; simp; omega) (fun k hk => (hown.lt k hk).1)
          obtain ⟨A3, c3, rfl, _⟩ := own_shape hown3
          have HQ2 := Lib.hid hq2
          have HO := Lib.hid hown3
          clear hpc hpl hq2 hg3 hat3 hown hown3
          go_wp2
          go_roundw
          case rel => exact ⟨j, A3, c3, by omega, rfl, rfl, HO.out, hb3⟩
          case measure => simp [intOf]
end Go.Proofs.Ytfkbmnlohaghbaa
