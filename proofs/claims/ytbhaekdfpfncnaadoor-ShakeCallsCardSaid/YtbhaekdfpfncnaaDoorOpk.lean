/- Arguments that are packets; nine arguments. -/
import Derived.Test.YtbhaekdfpfncnaaDoorArr
import Derived.Test.YtbhaekdfpfncnaaDoorPkt
namespace Go.Proofs.YtbhaekdfpfncnaaDoor
set_option linter.unusedVariables false
set_option linter.unusedSimpArgs false
open Go.ChangeShapes Go.WideShapes Go.ChangeAt Go.RowKit

section
variable {H : Type} {enc : TypeId × Value → H}
theorem arr_cells {P : Program} {w : World} {n : Nat} {e t : TypeId} (ht : P.underlying t = some (.array n e)) (he : P.underlying e = some (.int .u8)) (hc : P.cellsOf e = 1) {cs : List Value} (hl : cs.length = n) {fuel : Nat} {x : DataW H × List MemPlace}
    (hf : DataW.trod enc P w 0 (fun _ => true) true fuel t cs = some x) : ∃ l : List UInt8, cs = bc l ∧ l.length = n := by
  obtain ⟨xs, m, _, _, _, hxn, hel⟩ := DataW.trod_array ht hf
  obtain ⟨l, hl2, hll⟩ := bytes_of_cells cs fun i hi => by
    have h1 := hel i (by omega)
    rw [hc, Nat.mul_one, List.getElem?_eq_getElem (show i < xs.length by omega)] at h1
    obtain ⟨k, e1, _, e3⟩ := DataW.trod_int he h1
    obtain ⟨u, rfl⟩ := u8_of_wf e3
    refine ⟨u, ?_⟩
    have : ((cs.drop i).take 1)[0]? = some (.int .u8 (u.toNat : Int)) := by rw [e1]; rfl
    rw [List.getElem?_take, if_pos (by decide), List.getElem?_drop, Nat.add_zero] at this
    exact this
  exact ⟨l, hl2, by omega⟩
theorem cut_list (l : List Value) (a n : Nat) : l.drop a = (l.drop a).take n ++ l.drop (a + n) := by
  rw [← List.drop_drop, List.take_append_drop]
theorem open_pk {r : Reach} {bs : Nat} {W : World} {v : Value} {d : DataW H} {ps : List MemPlace}
    (hval : Value.okWide Tryd.prog W r bs 27 v) (h : DataW.Trod enc Tryd.prog W 0 (fun _ => true) true 27 v d ps) :
    ∃ p : PK, p.ok ∧ v = .agg p.X := by
  simp only [Value.okWide, Tryd.underlying27] at hval
  obtain ⟨cs, rfl, hs, _⟩ := hval
  have hs38 : cs.toList.length = 38 := by rw [Array.length_toList, hs]; kernel_rfl
  obtain ⟨fuel, hf⟩ := h
  have hf' : DataW.trod enc Tryd.prog W 0 (fun _ => true) true fuel 27 cs.toList = some (d, ps) := by simpa [Value.cells] using hf
  obtain ⟨xs, m, _, _, _, hxl, hel⟩ := DataW.trod_struct Tryd.underlying27 hf'
  have hx8 : xs.length = 8 := hxl
  have hx : ∀ i, i < 8 → ∃ x, xs[i]? = some x := fun i hi => ⟨xs[i]'(by omega), List.getElem?_eq_getElem (by omega)⟩
  obtain ⟨y0, hy0⟩ := hx 0 (by omega)
  have g0 : DataW.trod enc Tryd.prog W 0 (fun _ => true) true m 3 ((cs.toList.drop 0).take (Program.cellsOf Tryd.prog 3)) = some y0 := (hel 0 _ rfl).trans hy0
  rw [show Program.cellsOf Tryd.prog 3 = 1 from by kernel_rfl] at g0
  obtain ⟨y1, hy1⟩ := hx 1 (by omega)
  have g1 : DataW.trod enc Tryd.prog W 0 (fun _ => true) true m 3 ((cs.toList.drop 1).take (Program.cellsOf Tryd.prog 3)) = some y1 := (hel 1 _ rfl).trans hy1
  rw [show Program.cellsOf Tryd.prog 3 = 1 from by kernel_rfl] at g1
  obtain ⟨y2, hy2⟩ := hx 2 (by omega)
  have g2 : DataW.trod enc Tryd.prog W 0 (fun _ => true) true m 22 ((cs.toList.drop 2).take (Program.cellsOf Tryd.prog 22)) = some y2 := (hel 2 _ rfl).trans hy2
  rw [show Program.cellsOf Tryd.prog 22 = 1 from by kernel_rfl] at g2
  obtain ⟨y3, hy3⟩ := hx 3 (by omega)
  have g3 : DataW.trod enc Tryd.prog W 0 (fun _ => true) true m 23 ((cs.toList.drop 3).take (Program.cellsOf Tryd.prog 23)) = some y3 := (hel 3 _ rfl).trans hy3
  rw [show Program.cellsOf Tryd.prog 23 = 1 from by kernel_rfl] at g3
  obtain ⟨y4, hy4⟩ := hx 4 (by omega)
  have g4 : DataW.trod enc Tryd.prog W 0 (fun _ => true) true m 22 ((cs.toList.drop 4).take (Program.cellsOf Tryd.prog 22)) = some y4 := (hel 4 _ rfl).trans hy4
  rw [show Program.cellsOf Tryd.prog 22 = 1 from by kernel_rfl] at g4
  obtain ⟨y5, hy5⟩ := hx 5 (by omega)
  have g5 : DataW.trod enc Tryd.prog W 0 (fun _ => true) true m 24 ((cs.toList.drop 5).take (Program.cellsOf Tryd.prog 24)) = some y5 := (hel 5 _ rfl).trans hy5
  rw [show Program.cellsOf Tryd.prog 24 = 16 from by kernel_rfl] at g5
  obtain ⟨y6, hy6⟩ := hx 6 (by omega)
  have g6 : DataW.trod enc Tryd.prog W 0 (fun _ => true) true m 24 ((cs.toList.drop 21).take (Program.cellsOf Tryd.prog 24)) = some y6 := (hel 6 _ rfl).trans hy6
  rw [show Program.cellsOf Tryd.prog 24 = 16 from by kernel_rfl] at g6
  obtain ⟨y7, hy7⟩ := hx 7 (by omega)
  have g7 : DataW.trod enc Tryd.prog W 0 (fun _ => true) true m 25 ((cs.toList.drop 37).take (Program.cellsOf Tryd.prog 25)) = some y7 := (hel 7 _ rfl).trans hy7
  rw [show Program.cellsOf Tryd.prog 25 = 1 from by kernel_rfl] at g7
  obtain ⟨k, e0, _, w0⟩ := DataW.trod_int Tryd.underlying3 g0
  have b0 := int_of_wf w0
  obtain ⟨peer, e1, _, w1⟩ := DataW.trod_int Tryd.underlying3 g1
  have b1 := int_of_wf w1
  obtain ⟨ses, e2, _, w2⟩ := DataW.trod_int Tryd.underlying22 g2
  obtain ⟨ses, b2, rfl⟩ := u64_of_wf w2
  obtain ⟨ep, e3, _, w3⟩ := DataW.trod_int Tryd.underlying23 g3
  obtain ⟨ep, b3, rfl⟩ := u32_of_wf w3
  obtain ⟨cnt, e4, _, w4⟩ := DataW.trod_int Tryd.underlying22 g4
  obtain ⟨cnt, b4, rfl⟩ := u64_of_wf w4
  obtain ⟨rnd, e5, l5⟩ := arr_cells Tryd.underlying24 Tryd.underlying5 (by kernel_rfl) (by simp [hs38]) g5
  obtain ⟨mrk, e6, l6⟩ := arr_cells Tryd.underlying24 Tryd.underlying5 (by kernel_rfl) (by simp [hs38]) g6
  have hsl : ∃ (A : Option Addr) (bl : List UInt8) (c : Nat), (cs.toList.drop 37).take 1 = [.slice A bl.length c] ∧ bl.length ≤ c ∧ c ≤ maxLen := by
    rcases open_ints Tryd.underlying25 Tryd.underlying5 (by kernel_rfl) g7 with ⟨hcs, _⟩ | ⟨a, len', cap', zs, hcs, _, hl, hm, hz, _, hcell, hwf⟩
    · exact ⟨none, [], 0, hcs, Nat.le_refl _, Nat.zero_le _⟩
    · exact ⟨some a, List.replicate len' 0, cap', by rw [hcs, List.length_replicate], by rw [List.length_replicate]; exact hl, hm⟩
  obtain ⟨A, bl, c, e7, hb7, hc7⟩ := hsl
  have hall : cs.toList = (PK.mk k peer ses ep cnt rnd mrk bl A c).L := by
    have h0 := cut_list cs.toList 0 1
    have h1 := cut_list cs.toList 1 1
    have h2 := cut_list cs.toList 2 1
    have h3 := cut_list cs.toList 3 1
    have h4 := cut_list cs.toList 4 1
    have h5 := cut_list cs.toList 5 16
    have h6 := cut_list cs.toList 21 16
    have h7 := cut_list cs.toList 37 1
    rw [e0] at h0
    rw [e1] at h1
    rw [e2] at h2
    rw [e3] at h3
    rw [e4] at h4
    rw [e5] at h5
    rw [e6] at h6
    rw [e7, List.drop_of_length_le (i := 37 + 1) (by omega)] at h7
    rw [← List.drop_zero (l := cs.toList), h0, h1, h2, h3, h4, h5, h6, h7]
    simp [PK.L]
  refine ⟨PK.mk k peer ses ep cnt rnd mrk bl A c, ⟨b0, b1, b2, b3, b4, l5, l6, hb7, by unfold maxLen at hc7; show c ≤ _; omega⟩, ?_⟩
  rw [PK.X, ← hall, Array.toArray_toList]
theorem trodAll_nine {P : Program} {w : World} {base : Nat} {spare : Nat → Bool} {held : Bool} {t0 t1 t2 t3 t4 t5 t6 t7 t8 : TypeId} {args : Array Value} {ds : List (DataW H)} {ps : List MemPlace} (h : DataW.TrodAll enc P w base spare held [t0, t1, t2, t3, t4, t5, t6, t7, t8] args.toList ds ps) :
    ∃ v0 v1 v2 v3 v4 v5 v6 v7 v8 d0 d1 d2 d3 d4 d5 d6 d7 d8 p0 p1 p2 p3 p4 p5 p6 p7 p8, args = #[v0, v1, v2, v3, v4, v5, v6, v7, v8] ∧ ds = [d0, d1, d2, d3, d4, d5, d6, d7, d8] ∧ DataW.Trod enc P w base spare held t0 v0 d0 p0 ∧ DataW.Trod enc P w base spare held t1 v1 d1 p1 ∧ DataW.Trod enc P w base spare held t2 v2 d2 p2 ∧ DataW.Trod enc P w base spare held t3 v3 d3 p3 ∧ DataW.Trod enc P w base spare held t4 v4 d4 p4 ∧ DataW.Trod enc P w base spare held t5 v5 d5 p5 ∧ DataW.Trod enc P w base spare held t6 v6 d6 p6 ∧ DataW.Trod enc P w base spare held t7 v7 d7 p7 ∧ DataW.Trod enc P w base spare held t8 v8 d8 p8 := by
  obtain ⟨v0, vs, d0, ds, p0, q0, ha, rfl, _, h0, h⟩ := trodAll_cons h
  obtain ⟨v1, vs, d1, ds, p1, q1, rfl, rfl, _, h1, h⟩ := trodAll_cons h
  obtain ⟨v2, vs, d2, ds, p2, q2, rfl, rfl, _, h2, h⟩ := trodAll_cons h
  obtain ⟨v3, vs, d3, ds, p3, q3, rfl, rfl, _, h3, h⟩ := trodAll_cons h
  obtain ⟨v4, vs, d4, ds, p4, q4, rfl, rfl, _, h4, h⟩ := trodAll_cons h
  obtain ⟨v5, vs, d5, ds, p5, q5, rfl, rfl, _, h5, h⟩ := trodAll_cons h
  obtain ⟨v6, vs, d6, ds, p6, q6, rfl, rfl, _, h6, h⟩ := trodAll_cons h
  obtain ⟨v7, vs, d7, ds, p7, q7, rfl, rfl, _, h7, h⟩ := trodAll_cons h
  obtain ⟨v8, vs, d8, ds, p8, q8, rfl, rfl, _, h8, h⟩ := trodAll_cons h
  obtain ⟨rfl, rfl⟩ : vs = [] ∧ ds = [] := by
    cases vs <;> cases ds <;> simp [DataW.TrodAll] at h ⊢
  exact ⟨v0, v1, v2, v3, v4, v5, v6, v7, v8, d0, d1, d2, d3, d4, d5, d6, d7, d8, p0, p1, p2, p3, p4, p5, p6, p7, p8, by cases args; simp_all, rfl, h0, h1, h2, h3, h4, h5, h6, h7, h8⟩
theorem open_text {P : Program} {t : TypeId} {r : Reach} {b0 : Nat} {W : World} {v : Value} (ht : P.underlying t = some .string) (h : Value.okWide P W r b0 t v) : ∃ s : ByteArray, v = .string s ∧ s.size ≤ maxLen := by
  have h2 : IntKind.i64.max = 9223372036854775807 := rfl
  simp only [Value.okWide, ht, Cell.okWide] at h
  cases v with
  | string s =>
    refine ⟨s, rfl, ?_⟩
    have h3 : (s.size : Int) ≤ IntKind.i64.max := by simpa [Cell.ok, ht] using h
    unfold maxLen
    omega
  | _ => simp [Cell.ok, ht] at h
end
end Go.Proofs.YtbhaekdfpfncnaaDoor
