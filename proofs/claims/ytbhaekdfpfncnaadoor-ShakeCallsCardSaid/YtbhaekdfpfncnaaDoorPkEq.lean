/- drawbridgekit.Packet: a packet without a body is like itself. -/
import Derived.Test.YtbhaekdfpfncnaaDoorLivB
namespace Go.Proofs.YtbhaekdfpfncnaaDoor
set_option linter.unusedVariables false
set_option linter.unusedSimpArgs false
open Go.RowKit

theorem conv_nil (w : World) : (convert 25 9 (.slice none 0 0)).run Tryd.prog w = .ok (.string ⟨#[]⟩) w := by kernel_rfl

set_option maxHeartbeats 4000000 in
theorem packet_same (p : PK) (hp : p.ok) (hA : p.A = none) (hb : p.bl = []) (hc : p.c = 0) (w : World) :
    Calls Tryd.prog 15 #[.agg p.X, .agg p.X] w fun e w' => e = .returned (.bool true) ∧ Below w.heap.size w w' := by
  have x0 := p.x0
  have x1 := p.x1
  have x2 := p.x2
  have x3 := p.x3
  have x4 := p.x4
  have hxr := PK.xr hp
  have hxm := PK.xm hp
  have hx37 := PK.xb hp
  rw [hA, hb, hc] at hx37
  have HRL : Unit → (bc p.rnd).length = 16 := fun _ => by rw [bc_length, hp.rnd]
  have HML : Unit → (bc p.mrk).length = 16 := fun _ => by rw [bc_length, hp.mrk]
  have heqr := fun (w : World) => eq16 w p.rnd p.rnd hp.rnd hp.rnd
  have heqm := fun (w : World) => eq16 w p.mrk p.mrk hp.mrk hp.mrk
  rw [show decide (p.rnd = p.rnd) = true from decide_eq_true rfl] at heqr
  rw [show decide (p.mrk = p.mrk) = true from decide_eq_true rfl] at heqm
  have hcn := conv_nil
  obtain ⟨X, hX⟩ : ∃ X, X = p.X := ⟨_, rfl⟩
  rw [← hX] at x0 x1 x2 x3 x4 hxr hxm hx37 ⊢
  clear hX hp hA hb hc
  have hA0 : Blk ((w.alloc (.cells X 27)).alloc (.cells X 27)) w.heap.size 27 X := (Blk.new _ _ _).alloc _
  have hA1 : Blk ((w.alloc (.cells X 27)).alloc (.cells X 27)) (w.heap.size + 1) 27 X := Blk.newAt _ _ (by simp)
  have c00 := (hA0.cell 0).trans x0
  have c01 := (hA0.cell 1).trans x1
  have c02 := (hA0.cell 2).trans x2
  have c03 := (hA0.cell 3).trans x3
  have c04 := (hA0.cell 4).trans x4
  have c07 := (hA0.cell 37).trans hx37
  have c10 := (hA1.cell 0).trans x0
  have c11 := (hA1.cell 1).trans x1
  have c12 := (hA1.cell 2).trans x2
  have c13 := (hA1.cell 3).trans x3
  have c14 := (hA1.cell 4).trans x4
  have c17 := (hA1.cell 37).trans hx37
  have RA : ∀ (j : Nat) (v : Value), (bc p.rnd)[j]? = some v → ((w.alloc (.cells X 27)).alloc (.cells X 27)).cell? ((⟨w.heap.size, 5, none⟩ : Addr).add j) = some v := fun j v h => by rw [Addr.add_lit, hA0.cell]; exact hxr j v h
  have RB : ∀ (j : Nat) (v : Value), (bc p.rnd)[j]? = some v → ((w.alloc (.cells X 27)).alloc (.cells X 27)).cell? ((⟨w.heap.size + 1, 5, none⟩ : Addr).add j) = some v := fun j v h => by rw [Addr.add_lit, hA1.cell]; exact hxr j v h
  have MA : ∀ (j : Nat) (v : Value), (bc p.mrk)[j]? = some v → ((w.alloc (.cells X 27)).alloc (.cells X 27)).cell? ((⟨w.heap.size, 21, none⟩ : Addr).add j) = some v := fun j v h => by rw [Addr.add_lit, hA0.cell]; exact hxm j v h
  have MB : ∀ (j : Nat) (v : Value), (bc p.mrk)[j]? = some v → ((w.alloc (.cells X 27)).alloc (.cells X 27)).cell? ((⟨w.heap.size + 1, 21, none⟩ : Addr).add j) = some v := fun j v h => by rw [Addr.add_lit, hA1.cell]; exact hxm j v h
  have n1 : NewMem w ((w.alloc (.cells X 27)).alloc (.cells X 27)) := (NewMem.alloc _ _).more _
  have HRA := Lib.hid RA
  have HRB := Lib.hid RB
  have HMA := Lib.hid MA
  have HMB := Lib.hid MB
  clear hA0 hA1 x0 x1 x2 x3 x4 hx37 hxr hxm RA RB MA MB
  go_enter Tryd.func15, Tryd.ntmps15
  go_wp2_with (first | (refine at_slot 40 ?_; refine wpList_load_rd_if rfl 24 _ rfl ⟨w.heap.size, 5, none⟩ rfl (bc p.rnd) _ HRA.out Tryd.underlying24 rfl (by rw [HRL ()]; kernel_rfl) ?_) | (refine at_slot 42 ?_; refine wpList_load_rd_if rfl 24 _ rfl ⟨w.heap.size + 1, 5, none⟩ rfl (bc p.rnd) _ HRB.out Tryd.underlying24 rfl (by rw [HRL ()]; kernel_rfl) ?_) | (refine at_slot 47 ?_; refine wpList_load_rd_if rfl 24 _ rfl ⟨w.heap.size, 21, none⟩ rfl (bc p.mrk) _ HMA.out Tryd.underlying24 rfl (by rw [HML ()]; kernel_rfl) ?_) | (refine at_slot 49 ?_; refine wpList_load_rd_if rfl 24 _ rfl ⟨w.heap.size + 1, 21, none⟩ rfl (bc p.mrk) _ HMB.out Tryd.underlying24 rfl (by rw [HML ()]; kernel_rfl) ?_))
  go_ret
  exact ⟨rfl, n1⟩
end Go.Proofs.YtbhaekdfpfncnaaDoor
