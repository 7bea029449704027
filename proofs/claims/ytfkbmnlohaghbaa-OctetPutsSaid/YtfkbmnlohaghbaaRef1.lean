/- Contracts of drawbridgeref01: Sum, Number, Block. -/
import Derived.Test.YtfkbmnlohaghbaaSum
import Derived.Test.YtfkbmnlohaghbaaOctB
namespace Go.Proofs.Ytfkbmnlohaghbaa
set_option linter.unusedVariables false
set_option linter.unusedSimpArgs false
open Go.RowKit

set_option maxHeartbeats 2000000 in
/-- drawbridgeref01.Sum. -/
theorem refSum_calls (A : Option Addr) (ls : List (List UInt8)) (c : Nat) (w : World) (F : Nat → Prop) (hr : RdL w F A ls) (hl : ls.length ≤ 140737488351232) (hl2 : ∀ l ∈ ls, l.length ≤ 140737488351232) :
    Calls Try.prog 21 #[.slice A ls.length c] w fun e w' => e = .returned (.int .u32 (crc ls.flatten : Int)) ∧ w = w' := by
  have HR := Lib.hid hr
  have HL := Lib.hid hl2
  clear hr hl2
  go_enter Try.func21, Try.ntmps21
  go_wp2
  go_loop [3, 4] (fun x i => ∃ k y : Nat, k ≤ ls.length ∧ i = .int .i64 k ∧ y < 4294967296 ∧ Hid (y = crcF 4294967295 (ls.take k).flatten) ∧ x = .int .u32 y) (fun _ i => ls.length - (intOf i).toNat)
  case atStart => exact ⟨0, 4294967295, by omega, rfl, by omega, rfl, rfl⟩
  case round =>
    obtain ⟨k, y, hk, rfl, hy, HY, rfl⟩ := hrel
    by_cases hlt : k < ls.length
    · obtain ⟨b, off, rfl, _, hcell⟩ := HR.out.form (by omega)
      obtain ⟨a, c2, hc2, hra, hlc⟩ := hcell k ls[k] (List.getElem?_eq_getElem hlt)
      have hll := HL.out ls[k] (List.getElem_mem _)
      obtain ⟨l, hl'⟩ : ∃ l, l = ls[k] := ⟨_, rfl⟩
      rw [← hl'] at hc2 hra hll hlc
      have HE := Lib.hid hl'
      have HA := Lib.hid hra
      clear hcell hl' hra
      go_wp2
      go_loop [3, 5] (fun x i => ∃ j z : Nat, j ≤ l.length ∧ i = .int .i64 j ∧ z < 4294967296 ∧ Hid (z = crcF y (l.take j)) ∧ x = .int .u32 z) (fun _ i => l.length - (intOf i).toNat)
      case atStart => exact ⟨0, y, by omega, rfl, hy, rfl, rfl⟩
      case round =>
        obtain ⟨j, z, hj, rfl, hz, HZ, rfl⟩ := hrel
        by_cases hjl : j < l.length
        · obtain ⟨b2, off2, rfl, _, hcell⟩ := HA.out.form (by simp; omega)
          have hcj := hcell j _ (bc_get l j hjl)
          obtain ⟨ch, hch⟩ : ∃ ch, ch = l[j] := ⟨_, rfl⟩
          rw [← hch] at hcj
          have HC := Lib.hid hch
          have hchl := ch.toNat_lt
          clear hch hcell
          have e1 := u32_xor_lt hz (show ch.toNat < 4294967296 by omega)
          have l1 := xor_lt32 hz (show ch.toNat < 4294967296 by omega)
          obtain ⟨y1, hy1⟩ : ∃ y1, y1 = z ^^^ ch.toNat := ⟨_, rfl⟩
          rw [← hy1] at e1 l1
          have H1 := Lib.hid hy1
          clear hy1
          go_wp2
          go_loop [3, 6] (fun x i => ∃ n v : Nat, n ≤ 8 ∧ i = .int .i64 n ∧ v < 4294967296 ∧ Hid (stps (8 - n) v = stpB z ch) ∧ x = .int .u32 v) (fun _ i => 8 - (intOf i).toNat)
          case atStart => exact ⟨0, y1, by omega, rfl, l1, by show _ = _; rw [H1.out]; rfl, rfl⟩
          case round =>
            clear e1
            obtain ⟨n, v, hn, rfl, hv, HV, rfl⟩ := hrel
            by_cases hn8 : n < 8
            · by_cases hodd : v % 2 = 1
              · have ht : ((v : Int) % 2 == 1) = true := by rw [beq_iff_eq]; omega
                have hx : bits .xor .u32 ((v : Int) / 2) 3988292384 = ((stp v : Nat) : Int) := by
                  unfold stp
                  rw [if_pos hodd]
                  exact u32_xor_nat (v / 2) 3988292384 (by omega) (by omega)
                have hsl := stp_lt hv
                go_wp2
                go_round
                case rel => exact ⟨n + 1, stp v, by omega, by go_num, hsl, by show _ = _; rw [← HV.out, show 8 - n = (8 - (n + 1)) + 1 from by omega]; rfl, rfl⟩
                case measure => simp [intOf]; omega
              · have ht : ((v : Int) % 2 == 1) = false := by rw [beq_eq_false_iff_ne]; omega
                have hsv : stp v = v / 2 := by unfold stp; rw [if_neg hodd]
                have HS := Lib.hid hsv
                clear hsv
                go_wp2
                go_round
                case rel => exact ⟨n + 1, v / 2, by omega, by go_num, by omega, by show _ = _; rw [← HV.out, show 8 - n = (8 - (n + 1)) + 1 from by omega, stps, HS.out], by go_num⟩
                case measure => simp [intOf]; omega
            · have hn9 : n = 8 := by omega
              subst hn9
              have hvv : v = stpB z ch := HV.out
              have HVV := Lib.hid hvv
              clear hvv
              go_wp2
              go_round
              case rel =>
                refine ⟨j + 1, v, by omega, by go_num, hv, ?_, rfl⟩
                show _ = _
                rw [List.take_succ_eq_append_getElem hjl, crcF_snoc, ← HC.out, ← HZ.out, HVV.out]
              case measure => simp [intOf]; omega
        · have hj2 : j = l.length := by omega
          subst hj2
          go_wp2
          go_round
          case rel =>
            refine ⟨k + 1, z, by omega, by go_num, hz, ?_, rfl⟩
            show _ = _
            rw [HZ.out, List.take_length, HY.out, ← crcF_append, List.take_succ_eq_append_getElem hlt, List.flatten_append, ← HE.out]
            simp
          case measure => simp [intOf]; omega
    · have hk2 : k = ls.length := by omega
      subst hk2
      have hy' : y = crcF 4294967295 ls.flatten := by rw [HY.out, List.take_length]
      have e1 : bits .xor .u32 IntKind.u32.max (y : Int) = ((4294967295 - y : Nat) : Int) := by
        rw [← not32 y hy, ← u32_xor_nat _ _ (by omega) hy]; rfl
      have HE := Lib.hid e1
      have HY' := Lib.hid hy'
      clear e1 hy'
      go_wp2
      go_ret
      refine ⟨?_, rfl⟩
      unfold crc
      rw [← HY'.out, ← HE.out]
      rfl

set_option maxHeartbeats 1000000 in
/-- drawbridgeref01.Number: the bytes behind those of a slice of the caller's own. -/
theorem refNumber_calls (base : Nat) (A : Option Addr) (l : List UInt8) (c x : Nat) (w : World) (hown : w.ownsRow base 5 1 (.slice A l.length c) l.length (bc l)) (hB : base ≤ w.heap.size) (hl : l.length ≤ 140737488351232) (hx : x < 18446744073709551616) :
    Calls Try.prog 19 #[.slice A l.length c, .int .u64 (x : Int)] w fun e w' => ∃ A' c', e = .returned (.slice A' (l ++ num x).length c') ∧ w'.ownsRow base 5 1 (.slice A' (l ++ num x).length c') (l ++ num x).length (bc (l ++ num x)) ∧ Below base w w' := by
  obtain ⟨i0, hi0, hz0, hz1, hz2⟩ := info_parts info_u8
  have h8 := nlen_le8 hx
  have H := Lib.hid hown
  have hlt := hown.lt
  clear hown
  go_enter Try.func19, Try.ntmps19
  go_wp2
  go_loopw [5, 6] (fun v y wr => ∃ (k yy : Nat) (m : List UInt8) (A1 : Option Addr) (c1 : Nat), Hid (k + nlen yy = nlen x) ∧ yy ≤ x ∧ Hid (be (nlen x) x = be (nlen yy) yy ++ m) ∧ m.length = k ∧ k ≤ 8 ∧ y = .int .u64 yy ∧ v = .slice A1 m.length c1 ∧ Hid (wr.ownsRow w.heap.size 5 1 (.slice A1 m.length c1) m.length (bc m)) ∧ Below w.heap.size w wr) (fun _ y _ => (intOf y).toNat)
  case atStart => exact ⟨0, x, [], none, 0, by show _ = _; omega, Nat.le_refl _, by show _ = _; simp, rfl, by omega, rfl, rfl, World.ownsRow_nil _ _ _ _, Below.refl _ _⟩
  case round =>
    obtain ⟨k, yy, m, A1, c1, HK, hyx, HM, hmk, hk8, rfl, rfl, HO, hb⟩ := hrel
    by_cases h0 : 0 < yy
    · have hn := nlen_pos h0
      have hk9 : k + 1 ≤ 8 := by have := HK.out; omega
      have HN := Lib.hid hn
      have hml : m.length ≤ 8 := by omega
      have HMK := Lib.hid hmk
      clear hn hmk
      have hrd := Lib.hid (Rd.of_own HO.out (by omega))
      go_wp2_with (at_builtin; go_must (refine wpList_append_rd _ rfl (.tmp 15) (.tmp 16) _ rfl w.heap.size 5 i0 _ 1 Try.underlying24 hi0 hz0 hz1 hz2 rfl (.slice (some ⟨wr.heap.size, 0, none⟩) 1 1) 1 [_] rfl (World.ownsRow_lit wr #[_] 1 hb.size (by decide) rfl) _ A1 m.length c1 (bc m) rfl (by simp) (hrd.out.alloc _) (bc_one m) (by simp only [maxLen, bc_length]; omega) (by simp only [bc_length]; omega) (by have := hb.size; simp; omega) ?_); intro v2 w2 hown2 hg2 hat2)
      have hown3 : w2.ownsRow w.heap.size 5 1 v2 (UInt8.ofNat yy :: m).length (bc (UInt8.ofNat yy :: m)) := by
        rw [byte_mod, bc_length] at hown2
        rw [List.length_cons, Nat.add_comm]
        exact hown2
      have hb2 : Below w.heap.size w w2 := (hb.alloc hb.size _).grown hg2 (by have := hb.size; simp; omega) (by simp [Value.ownBlock]; exact hb.size)
      obtain ⟨A3, c3, rfl, _⟩ := own_shape hown3
      have HO3 := Lib.hid hown3
      clear hown2 hown3 hg2 hat2 HO hrd
      go_wp2
      go_roundw
      case rel => exact ⟨k + 1, yy / 256, UInt8.ofNat yy :: m, A3, c3, by show _ = _; have := HK.out; have := HN.out; omega, by omega, by show _ = _; rw [HM.out, HN.out, Nat.add_comm, be_snoc, List.append_assoc]; rfl, by have := HMK.out; simp; omega, hk9, by go_num, rfl, HO3.out, hb2⟩
      case measure => simp [intOf]; omega
    · have hy0 : yy = 0 := by omega
      subst hy0
      have hm : m = be (nlen x) x := by
        have := HM.out
        rw [nlen_zero] at this
        rw [this]; rfl
      have hkn : m.length = nlen x := by rw [hm, be_length]
      have hfin : l ++ [UInt8.ofNat m.length] ++ m = l ++ num x := by rw [hkn, List.append_assoc, num, ← hm]; rfl
      have hml : m.length ≤ 8 := by omega
      have HF := Lib.hid hfin
      have H2 : w.heap.size ≤ wr.heap.size := hb.size
      have hown0 := Lib.hid (own_below H.out (by exact hb))
      have hne : ∀ k, (Value.slice A l.length c).ownBlock = some k → base ≤ k := fun k hk => (hlt k hk).1
      have hrd := Lib.hid (Rd.of_own HO.out (by omega))
      clear hm hkn hfin HM HK hmk HO
      obtain ⟨q, hq⟩ : ∃ q, q = l ++ [UInt8.ofNat m.length] := ⟨_, rfl⟩
      have hql : q.length = l.length + 1 := by rw [hq]; simp
      have HQ := Lib.hid hq
      have HQL := Lib.hid hql
      clear hq hql
      have hmb : ((m.length : Nat) : Int) = ((UInt8.ofNat m.length).toNat : Int) := by rw [UInt8.toNat_ofNat']; omega
      have HMB := Lib.hid hmb
      clear hmb
      go_wp2_with (first
        | (at_builtin; refine wpList_append_rd _ rfl (.tmp 18) (.tmp 22) _ rfl base 5 i0 _ 1 Try.underlying24 hi0 hz0 hz1 hz2 rfl (.slice A l.length c) l.length (bc l) rfl (hown0.out.alloc _) _ (some ⟨wr.heap.size, 0, none⟩) 1 1 [_] rfl rfl (rd_one wr _ _) (one_of_int _ _) (by simp [maxLen]; omega) (by simp; omega) (by simp; omega) ?_; intro v4 w4 hown4 hg4 hat4; have hb4 : Below base w w4 := ((hb.mono hB).alloc (by omega) _).grown hg4 (by simp; omega) hne; have hrd4 := Lib.hid (Rd.keep (S := fun k => (Value.slice A l.length c).ownBlock = some k) (hrd.out.alloc _) (Fr.grown (Fr.refl _ _) hg4 fun k hk _ => hk) fun k _ h1 h2 => by have := hlt k h2; omega); rw [HMB.out] at hown4)
        | (at_builtin; refine wpList_append_rd _ rfl (.tmp 23) (.tmp 24) _ rfl base 5 i0 _ 1 Try.underlying24 hi0 hz0 hz1 hz2 rfl v4 _ _ rfl hown4 _ A1 m.length c1 (bc m) rfl (by simp) hrd4.out (bc_one m) (by simp only [maxLen, bc_length, List.length_cons, List.length_nil]; omega) (by simp only [bc_length, List.length_cons, List.length_nil]; omega) (by have := hb4.size; omega) ?_; intro v5 w5 hown5 hg5 hat5))
      go_ret
      have hown6 : w5.ownsRow base 5 1 v5 (l ++ num x).length (bc (l ++ num x)) := by
        rw [← HF.out]
        have e : bc l ++ [Value.int .u8 ((UInt8.ofNat m.length).toNat : Int)] ++ bc m = bc (l ++ [UInt8.ofNat m.length] ++ m) := by rw [bc_append, bc_append]; rfl
        rw [← e, show (l ++ [UInt8.ofNat m.length] ++ m).length = l.length + 1 + m.length from by simp; omega]
        simpa using hown5
      obtain ⟨A6, c6, rfl, _⟩ := own_shape hown6
      exact ⟨A6, c6, rfl, hown6, hb4.grown hg5 (by have := hb4.size; omega) fun k hk => (hown4.lt k hk).1⟩

set_option maxHeartbeats 400000 in
theorem refBlock_long (A B : Option Addr) (l : List UInt8) (n c d : Nat) (w : World) (hl : 1048576 < l.length) :
    Calls Try.prog 18 #[.slice A n c, .slice B l.length d] w fun en w' => en = .returned (.tuple #[.slice none 0 0, .int .i64 3]) ∧ w = w' := by
  go_enter Try.func18, Try.ntmps18
  go_wp2
  go_ret2
  exact ⟨rfl, rfl⟩
set_option maxHeartbeats 400000 in
/-- drawbridgeref01.Block of a block that is not too long. -/
theorem refBlock_calls (base : Nat) (A B : Option Addr) (b l : List UInt8) (c d : Nat) (w : World) (G : Nat → Prop) (hown : w.ownsRow base 5 1 (.slice A b.length c) b.length (bc b)) (hB : base ≤ w.heap.size) (hs : Rd w G B (bc l)) (hG : ∀ k, G k → k < base) (hb : b.length ≤ 140737486290000) (hl : l.length ≤ 1048576) :
    Calls Try.prog 18 #[.slice A b.length c, .slice B l.length d] w fun en w' => ∃ A' c', en = .returned (.tuple #[.slice A' (b ++ num l.length ++ l).length c', .int .i64 0]) ∧ w'.ownsRow base 5 1 (.slice A' (b ++ num l.length ++ l).length c') (b ++ num l.length ++ l).length (bc (b ++ num l.length ++ l)) ∧ Below base w w' := by
  obtain ⟨i0, hi0, hz0, hz1, hz2⟩ := info_parts info_u8
  have hn8 := nlen_le8 (x := l.length) (by omega)
  have hnl := num_length l.length
  have HN := refNumber_calls base A b c l.length w hown hB (by omega) (by omega)
  obtain ⟨q, hq⟩ : ∃ q, q = b ++ num l.length := ⟨_, rfl⟩
  have hql : q.length ≤ 140737486290010 := by rw [hq]; simp; omega
  obtain ⟨r, hr'⟩ : ∃ r, r = q ++ l := ⟨_, rfl⟩
  rw [← hq] at HN ⊢
  rw [← hr']
  have hrl : r.length = q.length + l.length := by rw [hr']; simp
  have hrb : bc q ++ bc l = bc r := by rw [hr', bc_append]
  have HL := Lib.hid hrl
  have HB := Lib.hid hrb
  have HN := Lib.hid HN
  clear hnl hn8 hq hr' hrl hrb
  go_enter Try.func18, Try.ntmps18
  go_wp2_with (first
    | (go_at_call 19; refine (HN.out).mono ?_; rintro en w1 ⟨A1, c1, rfl, hown1, hb1⟩)
    | (at_builtin; go_must (refine wpList_append_rd _ rfl (.tmp 13) (.tmp 14) _ rfl base 5 i0 _ 1 Try.underlying24 hi0 hz0 hz1 hz2 rfl (.slice A1 q.length c1) _ _ rfl hown1 G B _ d (bc l) rfl (by simp) (hs.belowB hb1 hG) (bc_one l) (by simp only [maxLen, bc_length]; omega) (by simp only [bc_length]; omega) (by have := hb1.size; omega) ?_); intro v3 w3 hown3 hg3 hat3))
  go_ret2
  rw [bc_length, ← HL.out, HB.out] at hown3
  obtain ⟨A4, c4, rfl, _⟩ := own_shape hown3
  exact ⟨A4, c4, rfl, hown3, hb1.grown hg3 (by have := hb1.size; omega) (fun k hk => (hown1.lt k hk).1)⟩
end Go.Proofs.Ytfkbmnlohaghbaa
