/- packet.Check: may a packet be? -/
import Derived.Test.YtbhaekdfpfncnaaDoorPkC
import Derived.WalkSpells
namespace Go.Proofs.YtbhaekdfpfncnaaDoor
set_option linter.unusedVariables false
set_option linter.unusedSimpArgs false
open Go.RowKit

theorem chk_all {p : PK} (h0 : hasL p.kind ≠ []) (h : ∀ j, j < 6 → partB p j = true) : chkB p = true := by
  unfold chkB
  rw [decide_eq_true h0, Bool.true_and, List.all_eq_true]
  intro j hj
  exact h j (List.mem_range.1 hj)
theorem chk_not {p : PK} (n : Nat) (hn : n < 6) (h : partB p n = false) : chkB p = false := by
  rw [Bool.eq_false_iff]
  intro hc
  unfold chkB at hc
  rw [Bool.and_eq_true, List.all_eq_true] at hc
  have := hc.2 n (List.mem_range.2 hn)
  rw [h] at this
  cases this
theorem chk_nil {p : PK} (h : hasL p.kind = []) : chkB p = false := by unfold chkB; rw [h]; rfl

theorem undef_ne (b : Bool) : ¬ (some undef = some (Value.bool b)) := fun h => by cases h
theorem fn4 (f g h k : Nat) : (#[fnV f, fnV g, fnV h, fnV k] : Array Value).all (·.oneCell') = true := by
  rw [Array.all_eq_true']
  intro u hu
  simp at hu
  rcases hu with rfl | rfl | rfl | rfl <;> rfl
/-- An error's number. -/
def resN (b : Bool) : Int := if b then 0 else 2

set_option maxHeartbeats 2000000 in
theorem check_calls (p : PK) (hp : p.ok) (w : World) : Calls Tryd.prog 23 #[.agg p.X] w fun e w' => e = .returned (.int .i64 (resN (chkB p))) ∧ Below w.heap.size w w' := by
  have hx0 := p.x0
  have hsz := PK.size hp
  have h1 := PK.one p
  have HSZ := fun _ : Unit => hsz
  generalize hX : p.X = X at *
  have HX := fun _ : Unit => hX
  clear hX hsz
  have hnl := fun (w : World) (a : Option Addr) (n c : Nat) => Lib.run_eql_slice_nil (P := Tryd.prog) w 55 3 a n c 0 0 Tryd.underlying55
  go_enter Tryd.func23, Tryd.ntmps23
  go_wp2_with fail
  refine (has_calls p.kind _).mono ?_
  rintro e w1 (⟨hn, rfl, rfl⟩ | ⟨A, c, hn, rfl, hr, hb⟩)
  · have hc := chk_nil hn
    have HC := fun _ : Unit => hc
    clear hn hc
    go_wp2_with fail
    go_ret
    exact ⟨by rw [HC ()]; rfl, (Below.refl _ _).alloc (Nat.le_refl _) _⟩
  · have HB : Hid (Blk w1 w.heap.size 27 X) := (Blk.new w _ X).below hb
    have n1 : NewMem w w1 := below_then (NewMem.alloc _ _) hb (Nat.le_refl _)
    have HR := Lib.hid (hr.mono (F' := fun _ => True) fun _ _ _ => trivial)
    have hl6 : (hasL p.kind).length ≤ 1000 := by
      unfold hasL
      repeat' split
      all_goals simp
    have HN := fun _ : Unit => hn
    have hpb : ∀ n, partB p n = if (hasL p.kind).contains (n : Int) then mayB p n else zeroB p n := fun n => rfl
    have HP := fun _ : Unit => hpb
    obtain ⟨l, hl⟩ : ∃ l, l = hasL p.kind := ⟨_, rfl⟩
    rw [← hl] at HR hl6 hpb ⊢
    have HP := fun _ : Unit => hpb
    clear hr hn hb hpb hl
    go_wp2_with fail
    clear hnl
    go_loopw [4, 5, 6, 12] (fun x4 x5 x6 i wr => ∃ n : Nat, n ≤ 6 ∧ i = .int .i64 n ∧ Hid (∀ j, j < n → partB p j = true) ∧ Hid (Blk wr w.heap.size 27 X) ∧ Hid (Rd wr (fun _ => True) (some A) (ints l)) ∧ Hid (NewMem w wr)) (fun _ _ _ i _ => 6 - (intOf i).toNat)
    case atStart => exact ⟨0, by omega, rfl, fun j h => by omega, HB, HR, n1⟩
    case round =>
      clear HB HR n1
      obtain ⟨n, hn, rfl, hall, hB, hR, hN⟩ := hrel
      by_cases hlt : n < 6
      · go_wp2_with fail
        refine (of_calls p hp n hlt _).mono ?_
        rintro e w2 ⟨f, g, h, k, rfl, hb2, hmay, hzero, hef, heg⟩
        unfold Enters at hef heg
        rw [HX ()] at hmay hzero
        have hB2 := Lib.hid (hB.out.below hb2)
        have hR2 := Lib.hid (hR.out.below hb2)
        have hN2 : Hid (NewMem w w2) := below_then hN.out hb2 (Nat.le_refl _)
        have HMAY := fun _ : Unit => hmay
        have HZERO := fun _ : Unit => hzero
        have hsw := hB2.out.lt
        clear hb2 hmay hzero hB hR hN
        go_wp2_with (refine wpList_store_row rfl 61 _ _ rfl w2.heap.size #[fnV f, fnV g, fnV h, fnV k] rfl rfl 61 _ (heap_alloc_new w2 _) (by kernel_rfl) rfl (fn4 _ _ _ _) ?_)
        generalize hw3 : World.setRow (World.alloc w2 _) _ _ = w3
        have n3 : NewMem w2 w3 := by rw [← hw3]; exact below_setRow_own (NewMem.alloc _ _) (Nat.le_refl _) _
        have hP3 : Hid (Blk w3 w2.heap.size 61 #[fnV f, fnV g, fnV h, fnV k]) := by show Blk _ _ _ _; rw [← hw3]; exact (Blk.new _ _ _).setRow _
        have hB3 := Lib.hid (hB2.out.below n3)
        have hR3 := Lib.hid (hR2.out.below n3)
        have hN3 : Hid (NewMem w w3) := below_then hN2.out n3 (Nat.le_refl _)
        clear hw3 n3 hB2 hR2 hN2
        refine (contains_calls (some A) l c (n : Int) w3 _ hR3.out hl6).mono ?_
        rintro e w4 ⟨rfl, rfl⟩
        have hp0 : w3.cell? ⟨w2.heap.size, 0, none⟩ = some (.func (.func f) #[] #[]) := hP3.out.cell 0
        have hp1 : w3.cell? ⟨w2.heap.size, 1, none⟩ = some (.func (.func g) #[] #[]) := hP3.out.cell 1
        obtain ⟨b, hb⟩ : ∃ b, b = l.contains (n : Int) := ⟨_, rfl⟩
        have hpn := HP () n
        rw [← hb] at hpn ⊢
        have HPN := fun _ : Unit => hpn
        clear hb hpn
        have hc3 : ∀ (j : Nat) (v : Value), X.toList[j]? = some v → w3.cell? ((⟨w.heap.size, 0, none⟩ : Addr).add j) = some v := fun j v h => by
          rw [Addr.add_lit, Nat.zero_add, hB3.out.cell]
          simpa using h
        have HC3 := fun _ : Unit => hc3
        clear hc3
        cases b
        · go_wp2_with (refine wpList_load_rd_if rfl 27 _ rfl ⟨w.heap.size, 0, none⟩ rfl X.toList _ (HC3 ()) Tryd.underlying27 rfl (by rw [Array.length_toList, HSZ ()]; kernel_rfl) ?_; rw [Array.toArray_toList])
          refine (HZERO () _).mono ?_
          rintro e w5 ⟨rfl, hb5⟩
          have hB5 := Lib.hid (hB3.out.below hb5)
          have hR5 := Lib.hid (hR3.out.below hb5)
          have hN5 : Hid (NewMem w w5) := below_then hN3.out hb5 (Nat.le_refl _)
          clear hb5 hB3 hR3 hN3 hp0 hp1 hP3
          obtain ⟨m, hm⟩ : ∃ m, m = zeroB p n := ⟨_, rfl⟩
          have hpm : partB p n = m := by rw [HPN (), hm]; rfl
          rw [← hm]
          have HPM := fun _ : Unit => hpm
          clear hm hpm
          cases m
          · go_wp2_with fail
            all_goals first | (exact absurd (by assumption : some undef = some (Value.bool _)) (undef_ne _)) | (go_ret; exact ⟨by rw [chk_not n hlt (HPM ())]; rfl, hN5.out⟩)
          · go_wp2_with fail
            go_roundw
            case rel =>
              refine ⟨n + 1, by omega, by go_num, fun j h => ?_, hB5, hR5, hN5⟩
              rcases Nat.lt_or_ge j n with h1 | h1
              · exact hall.out j h1
              · have : j = n := by omega
                subst this
                exact HPM ()
            case measure => simp [intOf]; omega
        · go_wp2_with (refine wpList_load_rd_if rfl 27 _ rfl ⟨w.heap.size, 0, none⟩ rfl X.toList _ (HC3 ()) Tryd.underlying27 rfl (by rw [Array.length_toList, HSZ ()]; kernel_rfl) ?_; rw [Array.toArray_toList])
          refine (HMAY () _).mono ?_
          rintro e w5 ⟨rfl, hb5⟩
          have hB5 := Lib.hid (hB3.out.below hb5)
          have hR5 := Lib.hid (hR3.out.below hb5)
          have hN5 : Hid (NewMem w w5) := below_then hN3.out hb5 (Nat.le_refl _)
          clear hb5 hB3 hR3 hN3 hp0 hp1 hP3
          obtain ⟨m, hm⟩ : ∃ m, m = mayB p n := ⟨_, rfl⟩
          have hpm : partB p n = m := by rw [HPN (), hm]; rfl
          rw [← hm]
          have HPM := fun _ : Unit => hpm
          clear hm hpm
          cases m
          · go_wp2_with fail
            all_goals first | (exact absurd (by assumption : some undef = some (Value.bool _)) (undef_ne _)) | (go_ret; exact ⟨by rw [chk_not n hlt (HPM ())]; rfl, hN5.out⟩)
          · go_wp2_with fail
            go_roundw
            case rel =>
              refine ⟨n + 1, by omega, by go_num, fun j h => ?_, hB5, hR5, hN5⟩
              rcases Nat.lt_or_ge j n with h1 | h1
              · exact hall.out j h1
              · have : j = n := by omega
                subst this
                exact HPM ()
            case measure => simp [intOf]; omega
      · have h6 : n = 6 := by omega
        subst h6
        have hck := chk_all (HN ()) hall.out
        have HCK := fun _ : Unit => hck
        clear hck hall
        go_wp2_with fail
        go_ret
        exact ⟨by rw [HCK ()]; rfl, hN.out⟩
end Go.Proofs.YtbhaekdfpfncnaaDoor
