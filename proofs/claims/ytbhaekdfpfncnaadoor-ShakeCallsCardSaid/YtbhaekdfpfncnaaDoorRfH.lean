/- drawbridgeref09.head. -/
import Derived.Test.YtbhaekdfpfncnaaDoorPkEq
namespace Go.Proofs.YtbhaekdfpfncnaaDoor
set_option linter.unusedVariables false
set_option linter.unusedSimpArgs false
open Go.RowKit

def headB (p q : PK) : Bool := decide (p.kind = q.kind) && (decide (p.peer = q.peer) && (decide (p.ses = q.ses) && (decide (p.ep = q.ep) && (decide (p.cnt = q.cnt) && (decide (p.rnd = q.rnd) && decide (p.mrk = q.mrk))))))


set_option maxHeartbeats 8000000 in
theorem head_calls (p q : PK) (hp : p.ok) (hq : q.ok) (w : World) : Calls Tryd.prog 38 #[.agg p.X, .agg q.X] w (Says w (headB p q)) := by
  have x0 := p.x0
  have x1 := p.x1
  have x2 := p.x2
  have x3 := p.x3
  have x4 := p.x4
  have xr := PK.xr hp
  have xm := PK.xm hp
  have xrl := hp.rnd
  have xml := hp.mrk
  have y0 := q.x0
  have y1 := q.x1
  have y2 := q.x2
  have y3 := q.x3
  have y4 := q.x4
  have yr := PK.xr hq
  have ym := PK.xm hq
  have yrl := hq.rnd
  have yml := hq.mrk
  have hB : headB p q = (decide (p.kind = q.kind) && (decide (p.peer = q.peer) && (decide (p.ses = q.ses) && (decide (p.ep = q.ep) && (decide (p.cnt = q.cnt) && (decide (p.rnd = q.rnd) && decide (p.mrk = q.mrk))))))) := rfl
  generalize headB p q = B at *
  obtain ⟨X, hX⟩ : ∃ X, X = p.X := ⟨_, rfl⟩
  obtain ⟨Y, hY⟩ : ∃ Y, Y = q.X := ⟨_, rfl⟩
  rw [← hX] at x0 x1 x2 x3 x4 xr xm ⊢
  rw [← hY] at y0 y1 y2 y3 y4 yr ym ⊢
  clear hX hY hp hq
  generalize p.kind = a0 at *
  generalize q.kind = b0 at *
  generalize p.peer = a1 at *
  generalize q.peer = b1 at *
  generalize p.ses = a2 at *
  generalize q.ses = b2 at *
  generalize p.ep = a3 at *
  generalize q.ep = b3 at *
  generalize p.cnt = a4 at *
  generalize q.cnt = b4 at *
  generalize p.rnd = a5 at *
  generalize q.rnd = b5 at *
  generalize p.mrk = a6 at *
  generalize q.mrk = b6 at *
  have HA0 : Blk ((w.alloc (.cells X 27)).alloc (.cells Y 27)) w.heap.size 27 X := (Blk.new _ _ _).alloc _
  have HA1 : Blk ((w.alloc (.cells X 27)).alloc (.cells Y 27)) (w.heap.size + 1) 27 Y := Blk.newAt _ _ (by simp)
  have c0 := (HA0.cell 0).trans x0
  have d0 := (HA1.cell 0).trans y0
  have c1 := (HA0.cell 1).trans x1
  have d1 := (HA1.cell 1).trans y1
  have c2 := (HA0.cell 2).trans x2
  have d2 := (HA1.cell 2).trans y2
  have c3 := (HA0.cell 3).trans x3
  have d3 := (HA1.cell 3).trans y3
  have c4 := (HA0.cell 4).trans x4
  have d4 := (HA1.cell 4).trans y4
  have RA : Hid (∀ (j : Nat) (v : Value), (bc a5)[j]? = some v → ((w.alloc (.cells X 27)).alloc (.cells Y 27)).cell? ((⟨w.heap.size, 5, none⟩ : Addr).add j) = some v) := Lib.hid fun j v h => by rw [Addr.add_lit, HA0.cell]; exact xr j v h
  have MA : Hid (∀ (j : Nat) (v : Value), (bc a6)[j]? = some v → ((w.alloc (.cells X 27)).alloc (.cells Y 27)).cell? ((⟨w.heap.size, 21, none⟩ : Addr).add j) = some v) := Lib.hid fun j v h => by rw [Addr.add_lit, HA0.cell]; exact xm j v h
  have RB : Hid (∀ (j : Nat) (v : Value), (bc b5)[j]? = some v → ((w.alloc (.cells X 27)).alloc (.cells Y 27)).cell? ((⟨w.heap.size + 1, 5, none⟩ : Addr).add j) = some v) := Lib.hid fun j v h => by rw [Addr.add_lit, HA1.cell]; exact yr j v h
  have MB : Hid (∀ (j : Nat) (v : Value), (bc b6)[j]? = some v → ((w.alloc (.cells X 27)).alloc (.cells Y 27)).cell? ((⟨w.heap.size + 1, 21, none⟩ : Addr).add j) = some v) := Lib.hid fun j v h => by rw [Addr.add_lit, HA1.cell]; exact ym j v h
  have n1 : NewMem w ((w.alloc (.cells X 27)).alloc (.cells Y 27)) := (NewMem.alloc _ _).more _
  have ZA5 : Unit → (bc a5).length = 16 := fun _ => by rw [bc_length, xrl]
  have ZB5 : Unit → (bc b5).length = 16 := fun _ => by rw [bc_length, yrl]
  have ZA6 : Unit → (bc a6).length = 16 := fun _ => by rw [bc_length, xml]
  have ZB6 : Unit → (bc b6).length = 16 := fun _ => by rw [bc_length, yml]
  have heqr := fun (w : World) => eq16 w a5 b5 xrl yrl
  have heqm := fun (w : World) => eq16 w a6 b6 xml yml
  clear HA0 HA1 x0 x1 x2 x3 x4 y0 y1 y2 y3 y4 xr xm yr ym xrl xml yrl yml
  by_cases e0 : a0 = b0
  rotate_left
  · have HBF : Unit → B = false := fun _ => by rw [hB]; simp [e0]
    have q1 : (a0 == b0) = false := by rw [beq_eq_false_iff_ne]; omega
    clear hB
    go_enter Tryd.func38, Tryd.ntmps38
    go_wp2_with (first | (refine at_slot 40 ?_; refine wpList_load_rd_if rfl 24 _ rfl ⟨w.heap.size, 5, none⟩ rfl (bc a5) _ RA.out Tryd.underlying24 rfl (by rw [ZA5 ()]; kernel_rfl) ?_) | (refine at_slot 42 ?_; refine wpList_load_rd_if rfl 24 _ rfl ⟨w.heap.size + 1, 5, none⟩ rfl (bc b5) _ RB.out Tryd.underlying24 rfl (by rw [ZB5 ()]; kernel_rfl) ?_) | (refine at_slot 47 ?_; refine wpList_load_rd_if rfl 24 _ rfl ⟨w.heap.size, 21, none⟩ rfl (bc a6) _ MA.out Tryd.underlying24 rfl (by rw [ZA6 ()]; kernel_rfl) ?_) | (refine at_slot 49 ?_; refine wpList_load_rd_if rfl 24 _ rfl ⟨w.heap.size + 1, 21, none⟩ rfl (bc b6) _ MB.out Tryd.underlying24 rfl (by rw [ZB6 ()]; kernel_rfl) ?_))
    go_ret
    exact ⟨by rw [HBF ()]; rfl, n1⟩
  subst e0
  by_cases e1 : a1 = b1
  rotate_left
  · have HBF : Unit → B = false := fun _ => by rw [hB]; simp [e1]
    have q1 : (a1 == b1) = false := by rw [beq_eq_false_iff_ne]; omega
    clear hB
    go_enter Tryd.func38, Tryd.ntmps38
    go_wp2_with (first | (refine at_slot 40 ?_; refine wpList_load_rd_if rfl 24 _ rfl ⟨w.heap.size, 5, none⟩ rfl (bc a5) _ RA.out Tryd.underlying24 rfl (by rw [ZA5 ()]; kernel_rfl) ?_) | (refine at_slot 42 ?_; refine wpList_load_rd_if rfl 24 _ rfl ⟨w.heap.size + 1, 5, none⟩ rfl (bc b5) _ RB.out Tryd.underlying24 rfl (by rw [ZB5 ()]; kernel_rfl) ?_) | (refine at_slot 47 ?_; refine wpList_load_rd_if rfl 24 _ rfl ⟨w.heap.size, 21, none⟩ rfl (bc a6) _ MA.out Tryd.underlying24 rfl (by rw [ZA6 ()]; kernel_rfl) ?_) | (refine at_slot 49 ?_; refine wpList_load_rd_if rfl 24 _ rfl ⟨w.heap.size + 1, 21, none⟩ rfl (bc b6) _ MB.out Tryd.underlying24 rfl (by rw [ZB6 ()]; kernel_rfl) ?_))
    go_ret
    exact ⟨by rw [HBF ()]; rfl, n1⟩
  subst e1
  by_cases e2 : a2 = b2
  rotate_left
  · have HBF : Unit → B = false := fun _ => by rw [hB]; simp [e2]
    have q1 : ((a2 : Int) == (b2 : Int)) = false := by rw [beq_eq_false_iff_ne]; omega
    have q2 : (a2 == b2) = false := by rw [beq_eq_false_iff_ne]; omega
    clear hB
    go_enter Tryd.func38, Tryd.ntmps38
    go_wp2_with (first | (refine at_slot 40 ?_; refine wpList_load_rd_if rfl 24 _ rfl ⟨w.heap.size, 5, none⟩ rfl (bc a5) _ RA.out Tryd.underlying24 rfl (by rw [ZA5 ()]; kernel_rfl) ?_) | (refine at_slot 42 ?_; refine wpList_load_rd_if rfl 24 _ rfl ⟨w.heap.size + 1, 5, none⟩ rfl (bc b5) _ RB.out Tryd.underlying24 rfl (by rw [ZB5 ()]; kernel_rfl) ?_) | (refine at_slot 47 ?_; refine wpList_load_rd_if rfl 24 _ rfl ⟨w.heap.size, 21, none⟩ rfl (bc a6) _ MA.out Tryd.underlying24 rfl (by rw [ZA6 ()]; kernel_rfl) ?_) | (refine at_slot 49 ?_; refine wpList_load_rd_if rfl 24 _ rfl ⟨w.heap.size + 1, 21, none⟩ rfl (bc b6) _ MB.out Tryd.underlying24 rfl (by rw [ZB6 ()]; kernel_rfl) ?_))
    go_ret
    exact ⟨by rw [HBF ()]; rfl, n1⟩
  subst e2
  by_cases e3 : a3 = b3
  rotate_left
  · have HBF : Unit → B = false := fun _ => by rw [hB]; simp [e3]
    have q1 : ((a3 : Int) == (b3 : Int)) = false := by rw [beq_eq_false_iff_ne]; omega
    have q2 : (a3 == b3) = false := by rw [beq_eq_false_iff_ne]; omega
    clear hB
    go_enter Tryd.func38, Tryd.ntmps38
    go_wp2_with (first | (refine at_slot 40 ?_; refine wpList_load_rd_if rfl 24 _ rfl ⟨w.heap.size, 5, none⟩ rfl (bc a5) _ RA.out Tryd.underlying24 rfl (by rw [ZA5 ()]; kernel_rfl) ?_) | (refine at_slot 42 ?_; refine wpList_load_rd_if rfl 24 _ rfl ⟨w.heap.size + 1, 5, none⟩ rfl (bc b5) _ RB.out Tryd.underlying24 rfl (by rw [ZB5 ()]; kernel_rfl) ?_) | (refine at_slot 47 ?_; refine wpList_load_rd_if rfl 24 _ rfl ⟨w.heap.size, 21, none⟩ rfl (bc a6) _ MA.out Tryd.underlying24 rfl (by rw [ZA6 ()]; kernel_rfl) ?_) | (refine at_slot 49 ?_; refine wpList_load_rd_if rfl 24 _ rfl ⟨w.heap.size + 1, 21, none⟩ rfl (bc b6) _ MB.out Tryd.underlying24 rfl (by rw [ZB6 ()]; kernel_rfl) ?_))
    go_ret
    exact ⟨by rw [HBF ()]; rfl, n1⟩
  subst e3
  by_cases e4 : a4 = b4
  rotate_left
  · have HBF : Unit → B = false := fun _ => by rw [hB]; simp [e4]
    have q1 : ((a4 : Int) == (b4 : Int)) = false := by rw [beq_eq_false_iff_ne]; omega
    have q2 : (a4 == b4) = false := by rw [beq_eq_false_iff_ne]; omega
    clear hB
    go_enter Tryd.func38, Tryd.ntmps38
    go_wp2_with (first | (refine at_slot 40 ?_; refine wpList_load_rd_if rfl 24 _ rfl ⟨w.heap.size, 5, none⟩ rfl (bc a5) _ RA.out Tryd.underlying24 rfl (by rw [ZA5 ()]; kernel_rfl) ?_) | (refine at_slot 42 ?_; refine wpList_load_rd_if rfl 24 _ rfl ⟨w.heap.size + 1, 5, none⟩ rfl (bc b5) _ RB.out Tryd.underlying24 rfl (by rw [ZB5 ()]; kernel_rfl) ?_) | (refine at_slot 47 ?_; refine wpList_load_rd_if rfl 24 _ rfl ⟨w.heap.size, 21, none⟩ rfl (bc a6) _ MA.out Tryd.underlying24 rfl (by rw [ZA6 ()]; kernel_rfl) ?_) | (refine at_slot 49 ?_; refine wpList_load_rd_if rfl 24 _ rfl ⟨w.heap.size + 1, 21, none⟩ rfl (bc b6) _ MB.out Tryd.underlying24 rfl (by rw [ZB6 ()]; kernel_rfl) ?_))
    go_ret
    exact ⟨by rw [HBF ()]; rfl, n1⟩
  subst e4
  by_cases e5 : a5 = b5
  rotate_left
  · have HBF : Unit → B = false := fun _ => by rw [hB]; simp [e5]
    rw [decide_eq_false e5] at heqr
    clear hB e5
    go_enter Tryd.func38, Tryd.ntmps38
    go_wp2_with (first | (refine at_slot 40 ?_; refine wpList_load_rd_if rfl 24 _ rfl ⟨w.heap.size, 5, none⟩ rfl (bc a5) _ RA.out Tryd.underlying24 rfl (by rw [ZA5 ()]; kernel_rfl) ?_) | (refine at_slot 42 ?_; refine wpList_load_rd_if rfl 24 _ rfl ⟨w.heap.size + 1, 5, none⟩ rfl (bc b5) _ RB.out Tryd.underlying24 rfl (by rw [ZB5 ()]; kernel_rfl) ?_) | (refine at_slot 47 ?_; refine wpList_load_rd_if rfl 24 _ rfl ⟨w.heap.size, 21, none⟩ rfl (bc a6) _ MA.out Tryd.underlying24 rfl (by rw [ZA6 ()]; kernel_rfl) ?_) | (refine at_slot 49 ?_; refine wpList_load_rd_if rfl 24 _ rfl ⟨w.heap.size + 1, 21, none⟩ rfl (bc b6) _ MB.out Tryd.underlying24 rfl (by rw [ZB6 ()]; kernel_rfl) ?_))
    go_ret
    exact ⟨by rw [HBF ()]; rfl, n1⟩
  rw [decide_eq_true e5] at heqr
  by_cases e6 : a6 = b6
  · have HBF : Unit → B = true := fun _ => by rw [hB]; simp [e5, e6]
    rw [decide_eq_true e6] at heqm
    clear hB e5 e6
    go_enter Tryd.func38, Tryd.ntmps38
    go_wp2_with (first | (refine at_slot 40 ?_; refine wpList_load_rd_if rfl 24 _ rfl ⟨w.heap.size, 5, none⟩ rfl (bc a5) _ RA.out Tryd.underlying24 rfl (by rw [ZA5 ()]; kernel_rfl) ?_) | (refine at_slot 42 ?_; refine wpList_load_rd_if rfl 24 _ rfl ⟨w.heap.size + 1, 5, none⟩ rfl (bc b5) _ RB.out Tryd.underlying24 rfl (by rw [ZB5 ()]; kernel_rfl) ?_) | (refine at_slot 47 ?_; refine wpList_load_rd_if rfl 24 _ rfl ⟨w.heap.size, 21, none⟩ rfl (bc a6) _ MA.out Tryd.underlying24 rfl (by rw [ZA6 ()]; kernel_rfl) ?_) | (refine at_slot 49 ?_; refine wpList_load_rd_if rfl 24 _ rfl ⟨w.heap.size + 1, 21, none⟩ rfl (bc b6) _ MB.out Tryd.underlying24 rfl (by rw [ZB6 ()]; kernel_rfl) ?_))
    go_ret
    exact ⟨by rw [HBF ()]; rfl, n1⟩
  · have HBF : Unit → B = false := fun _ => by rw [hB]; simp [e5, e6]
    rw [decide_eq_false e6] at heqm
    clear hB e5 e6
    go_enter Tryd.func38, Tryd.ntmps38
    go_wp2_with (first | (refine at_slot 40 ?_; refine wpList_load_rd_if rfl 24 _ rfl ⟨w.heap.size, 5, none⟩ rfl (bc a5) _ RA.out Tryd.underlying24 rfl (by rw [ZA5 ()]; kernel_rfl) ?_) | (refine at_slot 42 ?_; refine wpList_load_rd_if rfl 24 _ rfl ⟨w.heap.size + 1, 5, none⟩ rfl (bc b5) _ RB.out Tryd.underlying24 rfl (by rw [ZB5 ()]; kernel_rfl) ?_) | (refine at_slot 47 ?_; refine wpList_load_rd_if rfl 24 _ rfl ⟨w.heap.size, 21, none⟩ rfl (bc a6) _ MA.out Tryd.underlying24 rfl (by rw [ZA6 ()]; kernel_rfl) ?_) | (refine at_slot 49 ?_; refine wpList_load_rd_if rfl 24 _ rfl ⟨w.heap.size + 1, 21, none⟩ rfl (bc b6) _ MB.out Tryd.underlying24 rfl (by rw [ZB6 ()]; kernel_rfl) ?_))
    go_ret
    exact ⟨by rw [HBF ()]; rfl, n1⟩
end Go.Proofs.YtbhaekdfpfncnaaDoor
