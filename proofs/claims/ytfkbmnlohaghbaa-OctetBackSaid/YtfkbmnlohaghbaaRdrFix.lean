/- Fixed, Block and New of a reader; octet.Block. -/
import Derived.Test.YtfkbmnlohaghbaaRdrMore
import Derived.Test.YtfkbmnlohaghbaaOctB
namespace Go.Proofs.Ytfkbmnlohaghbaa
set_option linter.unusedVariables false
set_option linter.unusedSimpArgs false
open Go.RowKit

theorem fix_nil (n : Int) (w : World) : Calls Try.prog 27 #[.pointer none, .int .i64 n] w fun en w' => en = .returned (.slice none 0 0) ∧ w = w' := by
  go_enter Try.func27, Try.ntmps27
  go_wp2_with (go_at_call 30; refine (dead_nil _).mono ?_; rintro en w' ⟨rfl, rfl⟩)
  go_ret
  exact ⟨rfl, rfl⟩
theorem fix_dead (g : Nat) (l : List UInt8) (e : Nat) (n : Int) (w : World) (F : Nat → Prop) (h : Rdr w F g l e) (h0 : 0 < e) :
    Calls Try.prog 27 #[.pointer (some ⟨g, 0, none⟩), .int .i64 n] w fun en w' => en = .returned (.slice none 0 0) ∧ w = w' := by
  have H := Lib.hid h
  clear h
  go_enter Try.func27, Try.ntmps27
  go_wp2_with (go_at_call 30; refine (dead_err g l e _ F H.out h0).mono ?_; rintro en w' ⟨rfl, rfl⟩)
  go_ret
  exact ⟨rfl, rfl⟩
set_option maxHeartbeats 400000 in
theorem fix_more (g : Nat) (l : List UInt8) (k : Nat) (n : Int) (w : World) (F : Nat → Prop) (h : Rdr w F g l 0) (hk : k = n.toNat) (hl : l.length < k) :
    Calls Try.prog 27 #[.pointer (some ⟨g, 0, none⟩), .int .i64 n] w fun en w' => en = .returned (.slice none 0 0) ∧ Rdr w' F g l 5 ∧ Fr F w w' := by
  have H := Lib.hid h
  obtain ⟨A, c, h0, _, _, _, _, _, _, _, _⟩ := rdr_form h
  have hn : 0 < n := by omega
  have hn2 : (l.length : Int) < n := by omega
  clear h
  go_enter Try.func27, Try.ntmps27
  go_wp2_with (first
    | (go_at_call 30; refine (dead_ok g l _ F H.out).mono ?_; rintro en w' ⟨rfl, rfl⟩)
    | (go_at_call 31; refine (fail_calls g l 0 5 _ F H.out (by omega)).mono ?_; rintro en w2 ⟨rfl, hR2, hF2⟩))
  go_ret
  exact ⟨rfl, hR2, hF2⟩

set_option maxHeartbeats 1000000 in
theorem fix_good (g : Nat) (l : List UInt8) (k : Nat) (n : Int) (w : World) (F : Nat → Prop) (h : Rdr w F g l 0) (hn : n.toNat = k) (hk : k ≤ l.length) :
    Calls Try.prog 27 #[.pointer (some ⟨g, 0, none⟩), .int .i64 n] w fun en w' => ∃ A' c', en = .returned (.slice A' k c') ∧ w'.ownsRow w.heap.size 5 1 (.slice A' k c') k (bc (l.take k)) ∧ Rdr w' F g (l.drop k) 0 ∧ Fr F w w' := by
  obtain ⟨i0, hi0, hz0, hz1, hz2⟩ := info_parts info_u8
  have H := Lib.hid h
  obtain ⟨A, c, h0, _, _, _, hr, hlc, hl, hg, hgs⟩ := rdr_form h
  have hkl : (bc (l.take k)).length = k := by simp; omega
  have HK := Lib.hid hkl
  clear h hkl
  have hmax : (if 0 < n then n else 0) = (k : Int) := by split <;> omega
  clear hn
  have hrt := hr.take k
  rw [← bc_take] at hrt
  have HR := Lib.hid hrt
  clear hrt hr
  go_enter Try.func27, Try.ntmps27
  go_wp2_with (first
    | (go_at_call 30; refine (dead_ok g l _ F H.out).mono ?_; rintro en w' ⟨rfl, rfl⟩)
    | (at_builtin; go_must (refine wpList_append_rd _ rfl (.tmp 19) (.tmp 25) _ rfl w.heap.size 5 i0 _ 1 Try.underlying24 hi0 hz0 hz1 hz2 rfl (.slice (some ⟨w.heap.size, 0, none⟩) 0 0) 0 [] rfl (World.ownsRow_made w #[] 0 (Nat.le_refl _) (by decide) rfl) _ A _ c (bc (l.take k)) rfl HK.out.symm (HR.out.alloc _) (bc_one _) (by rw [HK.out]; simp [maxLen]; omega) (by rw [HK.out]; omega) (by simp) ?_); intro v3 w3 hown3 hg3 hat3; have hF3 : Fr (fun _ => False) w w3 := ((Fr.refl _ _).alloc _).grown hg3 (fun k hk hk2 => by simp [Value.ownBlock] at hk; omega); have H3 := Lib.hid (H.out.keep hF3 fun _ _ _ h => h); obtain ⟨A3, c3, k0, k1, k2, k3, hr3, hlc3, hl3, hg3', hgs3⟩ := rdr_form H3.out; have HR3 := Lib.hid hr3; clear hr3))
  all_goals
    go_ret
    have hown4 : w3.ownsRow w.heap.size 5 1 v3 k (bc (l.take k)) := by
      have := hown3
      rw [HK.out] at this
      simpa using this
    obtain ⟨A4, c4, rfl, _⟩ := own_shape hown4
    have hdl : (l.drop k).length = l.length - k := by simp
  · have hst := rdr_store (A' := A3) (m := l.length - k) (c' := 0) (l' := l.drop k) H3.out (by rw [List.drop_eq_nil_of_le (by omega)]; exact Rd.nil _ _ _) hdl.symm (by omega) (by omega)
    exact ⟨A4, c4, rfl, ownsRow_setCell_below hown4 hgs _, hst.1, (hF3.mono fun _ _ h => h.elim).trans hst.2⟩
  · have hst := rdr_store (A' := A3.map (·.add k)) (m := l.length - k) (c' := c3 - k) (l' := l.drop k) H3.out (by rw [bc_drop]; exact HR3.out.cut' k) hdl.symm (by omega) (by omega)
    exact ⟨A4, c4, rfl, ownsRow_setCell_below hown4 hgs _, hst.1, (hF3.mono fun _ _ h => h.elim).trans hst.2⟩

theorem own_none (w : World) (base : Nat) (e : TypeId) : w.ownsRow base e 1 (.slice none 0 0) 0 [] := World.ownsRow_nil _ _ _ _

theorem fix_calls (g : Nat) (l : List UInt8) (e : Nat) (n : Int) (w : World) (F : Nat → Prop) (h : Rdr w F g l e) :
    Calls Try.prog 27 #[.pointer (some ⟨g, 0, none⟩), .int .i64 n] w fun en w' => ∃ A' c', en = .returned (.slice A' (rFix l e n.toNat).1.length c') ∧ w'.ownsRow w.heap.size 5 1 (.slice A' (rFix l e n.toNat).1.length c') (rFix l e n.toNat).1.length (bc (rFix l e n.toNat).1) ∧ Rdr w' F g (rFix l e n.toNat).2.1 (rFix l e n.toNat).2.2 ∧ Fr F w w' := by
  unfold rFix
  by_cases he : 0 < e
  · rw [if_pos he]
    refine (fix_dead g l e n w F h he).mono ?_
    rintro en w' ⟨rfl, rfl⟩
    exact ⟨none, 0, rfl, own_none _ _ _, h, Fr.refl _ _⟩
  · have he0 : e = 0 := by omega
    subst he0
    rw [if_neg he]
    by_cases hl : l.length < n.toNat
    · rw [if_pos hl]
      refine (fix_more g l n.toNat n w F h rfl hl).mono ?_
      rintro en w' ⟨rfl, hR, hF⟩
      exact ⟨none, 0, rfl, own_none _ _ _, hR, hF⟩
    · rw [if_neg hl]
      have e1 : (l.take n.toNat).length = n.toNat := by simp; omega
      refine (fix_good g l n.toNat n w F h rfl (by omega)).mono ?_
      rintro en w' ⟨A', c', rfl, hown, hR, hF⟩
      simp only [e1]
      exact ⟨A', c', rfl, hown, hR, hF⟩

theorem rblock_nil (w : World) : Calls Try.prog 24 #[.pointer none] w fun en w' => en = .returned (.slice none 0 0) ∧ w = w' := by
  go_enter Try.func24, Try.ntmps24
  go_wp2_with (first
    | (go_at_call 14; refine (rnum_nil _).mono ?_; rintro en w' ⟨rfl, rfl⟩)
    | (go_at_call 30; refine (dead_nil _).mono ?_; rintro en w' ⟨rfl, rfl⟩))
  go_ret
  exact ⟨rfl, rfl⟩
set_option maxHeartbeats 400000 in
theorem rblock_calls (g : Nat) (l : List UInt8) (e : Nat) (w : World) (F : Nat → Prop) (h : Rdr w F g l e) :
    Calls Try.prog 24 #[.pointer (some ⟨g, 0, none⟩)] w fun en w' => ∃ A' c', en = .returned (.slice A' (rBlk l e).1.length c') ∧ w'.ownsRow w.heap.size 5 1 (.slice A' (rBlk l e).1.length c') (rBlk l e).1.length (bc (rBlk l e).1) ∧ Rdr w' F g (rBlk l e).2.1 (rBlk l e).2.2 ∧ Fr F w w' := by
  have H := rnum_calls g l e w F h
  clear h
  unfold rBlk
  obtain ⟨⟨v, l', e'⟩, hr⟩ : ∃ r, r = rNum l e := ⟨_, rfl⟩
  rw [← hr] at H ⊢
  clear hr
  simp only at H ⊢
  have H := Lib.hid H
  by_cases he : 0 < e'
  · rw [if_pos he]
    go_enter Try.func24, Try.ntmps24
    go_wp2_with (first
      | (go_at_call 14; refine (H.out).mono ?_; rintro en w1 ⟨rfl, hR, hF⟩)
      | (go_at_call 30; refine (dead_err g l' e' _ F hR he).mono ?_; rintro en w' ⟨rfl, rfl⟩))
    go_ret
    exact ⟨none, 0, rfl, own_none _ _ _, hR, hF⟩
  · have he0 : e' = 0 := by omega
    subst he0
    rw [if_neg he]
    by_cases hm : 1048576 < v
    · rw [if_pos hm]
      go_enter Try.func24, Try.ntmps24
      go_wp2_with (first
        | (go_at_call 14; refine (H.out).mono ?_; rintro en w1 ⟨rfl, hR, hF⟩)
        | (go_at_call 30; refine (dead_ok g l' _ F hR).mono ?_; rintro en w' ⟨rfl, rfl⟩)
        | (go_at_call 31; refine (fail_calls g l' 0 3 _ F hR (by omega)).mono ?_; rintro en w2 ⟨rfl, hR2, hF2⟩))
      go_ret
      exact ⟨none, 0, rfl, own_none _ _ _, hR2, hF.trans hF2⟩
    · rw [if_neg hm]
      have hm' : v ≤ 1048576 := by omega
      go_enter Try.func24, Try.ntmps24
      go_wp2_with (first
        | (go_at_call 14; refine (H.out).mono ?_; rintro en w1 ⟨rfl, hR, hF⟩)
        | (go_at_call 30; refine (dead_ok g l' _ F hR).mono ?_; rintro en w' ⟨rfl, rfl⟩)
        | (go_at_call 27; refine (fix_calls g l' 0 (v : Int) _ F hR).mono ?_; rintro en w2 ⟨A2, c2, rfl, hown2, hR2, hF2⟩))
      go_ret
      exact ⟨A2, c2, rfl, ⟨hown2.1, hown2.2.imp id fun ⟨g, cap, cur, q1, q2, q3⟩ => ⟨g, cap, cur, q1, Nat.le_trans hF.size q2, q3⟩⟩, hR2, hF.trans hF2⟩

/-- A new reader over a copy of bytes. -/
theorem new_calls (A : Option Addr) (l : List UInt8) (c : Nat) (w : World) (F : Nat → Prop) (hr : Rd w F A (bc l)) (hl : l.length ≤ 140737488351232) :
    Calls Try.prog 11 #[.slice A l.length c] w fun en w' => ∃ g, en = .returned (.pointer (some ⟨g, 0, none⟩)) ∧ Rdr w' (fun k => w.heap.size ≤ k ∧ k < w'.heap.size) g l 0 ∧ Below w.heap.size w w' := by
  go_enter Try.func11, Try.ntmps11
  go_wp2_with (go_at_call 29; refine (clone_calls A l c _ F hr hl).mono ?_; rintro en w1 ⟨A1, c1, rfl, hown1, hb1⟩)
  go_ret
  obtain ⟨A2, c2, he, hc2, _⟩ := own_shape hown1
  injection he with he1 _ he3
  subst he1; subst he3
  refine ⟨w1.heap.size, rfl, ⟨⟨hb1.size, by simp⟩, hl, by omega, A1, c1, by simpa using Blk.new w1 _ _, ?_, hc2⟩, hb1.alloc hb1.size _⟩
  exact ((Rd.of_own hown1 (by omega)).mono fun k hk h => ⟨⟨h.1, by simp; omega⟩, by omega⟩).alloc _

set_option maxHeartbeats 400000 in
theorem block_long (A B : Option Addr) (l : List UInt8) (n c d : Nat) (w : World) (hl : 1048576 < l.length) :
    Calls Try.prog 16 #[.slice A n c, .slice B l.length d] w fun en w' => en = .returned (.tuple #[.slice none 0 0, .int .i64 3]) ∧ w = w' := by
  go_enter Try.func16, Try.ntmps16
  go_wp2
  go_ret2
  exact ⟨rfl, rfl⟩
set_option maxHeartbeats 400000 in
/-- octet.Block of a block that is not too long. -/
theorem block_calls (A B : Option Addr) (b l : List UInt8) (c d : Nat) (w : World) (F G : Nat → Prop) (hr : Rd w F A (bc b)) (hs : Rd w G B (bc l)) (hb : b.length ≤ 140737486290000) (hl : l.length ≤ 1048576) :
    Calls Try.prog 16 #[.slice A b.length c, .slice B l.length d] w fun en w' => ∃ A' c', en = .returned (.tuple #[.slice A' (b ++ num l.length ++ l).length c', .int .i64 0]) ∧ w'.ownsRow w.heap.size 5 1 (.slice A' (b ++ num l.length ++ l).length c') (b ++ num l.length ++ l).length (bc (b ++ num l.length ++ l)) ∧ Below w.heap.size w w' := by
  obtain ⟨i0, hi0, hz0, hz1, hz2⟩ := info_parts info_u8
  have hn8 := nlen_le8 (x := l.length) (by omega)
  have hnl := num_length l.length
  have HN := number_calls A b c l.length w F hr (by omega) (by omega)
  obtain ⟨q, hq⟩ : ∃ q, q = b ++ num l.length := ⟨_, rfl⟩
  have hql : q.length ≤ 140737486290010 := by rw [hq]; simp; omega
  obtain ⟨r, hr'⟩ : ∃ r, r = q ++ l := ⟨_, rfl⟩
  rw [← hq] at HN ⊢
  rw [← hr']
  have hrl : r.length = q.length + l.length := by rw [hr']; simp
  have hrb : bc q ++ bc l = bc r := by rw [hr', bc_append]
  have HL := Lib.hid hrl
  have HB := Lib.hid hrb
  have HN := Lib.hid HN
  clear hnl hn8 hq hr' hrl hrb
  go_enter Try.func16, Try.ntmps16
  go_wp2_with (first
    | (go_at_call 13; refine (HN.out).mono ?_; rintro en w1 ⟨A1, c1, rfl, hown1, hb1⟩)
    | (at_builtin; go_must (refine wpList_append_rd _ rfl (.tmp 13) (.tmp 14) _ rfl w.heap.size 5 i0 _ 1 Try.underlying24 hi0 hz0 hz1 hz2 rfl (.slice A1 q.length c1) _ _ rfl hown1 G B _ d (bc l) rfl (by simp) (hs.below hb1) (bc_one l) (by simp only [maxLen, bc_length]; omega) (by simp only [bc_length]; omega) hb1.size ?_); intro v3 w3 hown3 hg3 hat3))
  go_ret2
  rw [bc_length, ← HL.out, HB.out] at hown3
  obtain ⟨A4, c4, rfl, _⟩ := own_shape hown3
  exact ⟨A4, c4, rfl, hown3, hb1.grown hg3 hb1.size (fun k hk => (hown1.lt k hk).1)⟩
end Go.Proofs.Ytfkbmnlohaghbaa
