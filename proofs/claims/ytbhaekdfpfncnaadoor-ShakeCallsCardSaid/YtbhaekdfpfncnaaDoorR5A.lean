/- drawbridgeref05.turn and drawbridgeref05.Pad. -/
import Derived.Test.YtbhaekdfpfncnaaDoorHkA
import Derived.Laws.OwnMore
namespace Go.Proofs.YtbhaekdfpfncnaaDoor
set_option linter.unusedVariables false
set_option linter.unusedSimpArgs false
open Go.RowKit

theorem turn_calls (x n : Nat) (w : World) (hx : x < 4294967296) (hn : n ≤ 32) :
    Calls Tryd.prog 86 #[.int .u32 (x : Int), .int .u64 (n : Int)] w fun e w' => e = .returned (.int .u32 (rotr x n : Int)) ∧ w = w' := by
  have h1 : x / 2 ^ n < 4294967296 := Nat.lt_of_le_of_lt (Nat.div_le_self _ _) hx
  have h2 : x * 2 ^ (32 - n) % 4294967296 < 4294967296 := Nat.mod_lt _ (by omega)
  have e := u32_or_nat _ _ h1 h2
  rw [Int.natCast_ediv, Int.natCast_emod, Int.natCast_mul, Int.natCast_pow, Int.natCast_pow] at e
  have HE := Lib.hid e
  clear e h1 h2
  go_enter Tryd.func86, Tryd.ntmps86
  go_wp2
  go_ret
  exact ⟨by rw [show bits .or .u32 ((x : Int) / 2 ^ n) ((x : Int) * 2 ^ (32 - n) % 4294967296) = _ from HE.out]; rfl, rfl⟩

set_option maxHeartbeats 1000000 in
theorem rpad_calls (n : Nat) (w : World) (hn : n ≤ 1125899906842624) :
    Calls Tryd.prog 80 #[.int .i64 (n : Int)] w fun e w' => ∃ A' c', e = .returned (.slice A' (padB n).length c') ∧ w'.ownsRow w.heap.size 5 1 (.slice A' (padB n).length c') (padB n).length (bc (padB n)) ∧ Below w.heap.size w w' := by
  obtain ⟨i0, hi0, hz0, hz1, hz2⟩ := info_parts info_u8
  go_enter Tryd.func80, Tryd.ntmps80
  have hmx : max 0 (n : Int) = (n : Int) := by omega
  have hmy : (if 0 < (n : Int) then (n : Int) else 0) = (n : Int) := by split <;> omega
  have hmz : (if 0 < n then (n : Int) else 0) = (n : Int) := by split <;> omega
  go_wp2_with fail
  clear hmx hmy hmz
  obtain ⟨z, hz⟩ : ∃ z, z = (119 - n % 64) % 64 := ⟨_, rfl⟩
  go_loopw [3] (fun b wr => ∃ (k : Nat) (A' : Option Addr) (c' : Nat) (q : List UInt8), k ≤ z ∧ Hid (q = 128 :: List.replicate k 0) ∧ Hid (q.length = k + 1) ∧ b = .slice A' q.length c' ∧ Hid (wr.ownsRow w.heap.size 5 1 (.slice A' q.length c') q.length (bc q)) ∧ Below w.heap.size w wr) (fun b _ => 64 - (match b with | .slice _ n _ => n | _ => 0))
  case atStart => exact ⟨0, _, 1, [128], by omega, rfl, rfl, rfl, World.ownsRow_lit w #[.int .u8 128] 1 (Nat.le_refl _) (by decide) rfl, (Below.refl _ _).alloc (Nat.le_refl _) _⟩
  case round =>
    obtain ⟨k, A', c', q, hk, hq, hql, rfl, hown, hbel⟩ := hrel
    have hqb : q.length ≤ 64 := by have := hql.out; omega
    by_cases hkz : k < z
    · have ht : ((((n : Int) + (q.length : Int)) % 64) != 56) = true := by
        rw [bne_iff_ne]
        have := hql.out
        omega
      go_wp2_with (at_builtin; refine wpList_append_rd _ rfl (.tmp 16) (.tmp 17) _ rfl w.heap.size 5 i0 _ 1 Tryd.underlying25 hi0 hz0 hz1 hz2 rfl (.slice A' q.length c') q.length (bc q) rfl (hown.out.alloc _) _ (some ⟨wr.heap.size, 0, none⟩) 1 1 [_] rfl rfl (rd_one wr _ _) (one_of_int _ _) (by simp [maxLen]; omega) (by simp; omega) (by have := hbel.size; simp; omega) ?_; intro v3 w3 hown3 hg3 hat3)
      have hpc : bc q ++ [Value.int IntKind.u8 0] = bc (q ++ [0]) := by rw [bc_append]; rfl
      have hpl : q.length + [Value.int IntKind.u8 0].length = (q ++ [0]).length := by simp
      rw [hpc, hpl] at hown3
      have hb3 : Below w.heap.size w w3 := (hbel.alloc hbel.size _).grown hg3 (by have := hbel.size; simp; omega) (fun k hk => (hown.out.lt k hk).1)
      obtain ⟨A3, c3, rfl, _⟩ := own_shape hown3
      obtain ⟨q2, hq2⟩ : ∃ q2, q2 = q ++ [0] := ⟨_, rfl⟩
      rw [← hq2] at hown3 ⊢
      have HO := Lib.hid hown3
      have hq3 : Hid (q2 = 128 :: List.replicate (k + 1) 0) := by show _ = _; rw [hq2, hq.out, List.replicate_succ']; rfl
      have hql3 : Hid (q2.length = k + 1 + 1) := by show _ = _; rw [hq2, List.length_append, hql.out]; rfl
      clear hpc hpl hg3 hat3 hown3 hq2
      go_wp2
      go_roundw
      case rel => exact ⟨k + 1, A3, c3, q2, by omega, hq3, hql3, rfl, HO, hb3⟩
      case measure => have h1 := hql3.out; have h2 := hql.out; simp; omega
    · have hkz' : k = z := by omega
      have ht : ((((n : Int) + (q.length : Int)) % 64) != 56) = false := by
        rw [bne_eq_false_iff_eq]
        have := hql.out
        omega
      have hqz : q = 128 :: List.replicate ((119 - n % 64) % 64) 0 := by rw [hq.out, hkz', hz]
      have HQZ := Lib.hid hqz
      clear hqz hq hkz' hkz hk hz
      go_wp2_with fail
      clear ht
      generalize (((n : Int) % 64 + (q.length : Int)) % 64) = t14
      go_loopw [3, 5] (fun b i wr => ∃ (j : Nat) (A' : Option Addr) (c' : Nat) (r : List UInt8), j ≤ 8 ∧ i = .int .i64 ((j : Int) - 1) ∧ Hid (r = q ++ (be 8 (n * 8)).take (8 - j)) ∧ r.length ≤ 80 ∧ b = .slice A' r.length c' ∧ Hid (wr.ownsRow w.heap.size 5 1 (.slice A' r.length c') r.length (bc r)) ∧ Below w.heap.size w wr) (fun _ i _ => (intOf i + 1).toNat)
      case atStart => exact ⟨8, A', c', q, Nat.le_refl _, rfl, by show _ = _; simp, by omega, rfl, hown, hbel⟩
      case round =>
        clear hown hbel
        obtain ⟨j, A', c', r, hj, hi, hr, hrl, rfl, hown, hb⟩ := hrel
        cases j with
        | zero =>
          rw [show (((0 : Nat) : Int) - 1) = -1 from rfl] at hi
          subst hi
          go_wp2
          go_ret
          have e : r = padB n := by rw [hr.out, HQZ.out, Nat.sub_zero, List.take_of_length_le (by simp [be_length])]; rfl
          rw [← e]
          exact ⟨A', c', rfl, hown.out, hb⟩
        | succ j =>
          rw [show (((j + 1 : Nat) : Int) - 1) = (j : Int) from by omega] at hi
          subst hi
          have hs := be_take_succ 8 (n * 8) j hj
          have hrl2 : r.length = q.length + (8 - (j + 1)) := by rw [hr.out, List.length_append, List.length_take, be_length]; omega
          have HRL := Lib.hid hrl2
          have HS := Lib.hid hs
          clear hs hrl2
          go_wp2_with (at_builtin; refine wpList_append_rd _ rfl (.tmp 26) (.tmp 33) _ rfl w.heap.size 5 i0 _ 1 Tryd.underlying25 hi0 hz0 hz1 hz2 rfl (.slice A' r.length c') r.length (bc r) rfl (hown.out.alloc _) _ (some ⟨wr.heap.size, 0, none⟩) 1 1 [_] rfl rfl (rd_one wr _ _) (one_of_int _ _) (by simp [maxLen]; omega) (by simp; omega) (by have := hb.size; simp; omega) ?_; intro v3 w3 hown3 hg3 hat3)
          rw [show (n : Int) * 8 = ((n * 8 : Nat) : Int) from by omega, shr_byte] at hown3
          have hpc : bc r ++ [Value.int IntKind.u8 ((UInt8.ofNat (n * 8 / 256 ^ j)).toNat : Int)] = bc (r ++ [UInt8.ofNat (n * 8 / 256 ^ j)]) := by rw [bc_append]; rfl
          have hpl : r.length + [Value.int IntKind.u8 ((UInt8.ofNat (n * 8 / 256 ^ j)).toNat : Int)].length = (r ++ [UInt8.ofNat (n * 8 / 256 ^ j)]).length := by simp
          rw [hpc, hpl] at hown3
          have hb3 : Below w.heap.size w w3 := (hb.alloc hb.size _).grown hg3 (by have := hb.size; simp; omega) (fun k hk => (hown.out.lt k hk).1)
          obtain ⟨A3, c3, rfl, _⟩ := own_shape hown3
          obtain ⟨r2, hr2⟩ : ∃ r2, r2 = r ++ [UInt8.ofNat (n * 8 / 256 ^ j)] := ⟨_, rfl⟩
          rw [← hr2] at hown3 ⊢
          have HO := Lib.hid hown3
          have hr3 : Hid (r2 = q ++ (be 8 (n * 8)).take (8 - j)) := by show _ = _; rw [hr2, hr.out, HS.out, List.append_assoc]
          have hrl3 : r2.length ≤ 80 := by rw [hr2, List.length_append, HRL.out]; simp; omega
          clear hpc hpl hg3 hat3 hown3 hr2
          go_wp2
          go_roundw
          case rel => exact ⟨j, A3, c3, r2, by omega, rfl, hr3, hrl3, rfl, HO, hb3⟩
          case measure => simp [intOf]
end Go.Proofs.YtbhaekdfpfncnaaDoor
