/- Slices that may be appended to, told by their cells alone: what lies behind the length is there and may be written. No program. -/
import Derived.Test.YtbhaekdfpfncnaaDoorWords
import Derived.ArgAppend
import Derived.Deep.Upon
namespace Go.Proofs.YtbhaekdfpfncnaaDoor
set_option linter.unusedVariables false
set_option linter.unusedSimpArgs false
open Go.RowKit

/-- v is a slice of the cells xs, in a block of F; the cells behind them, up to the capacity, are there and are not frozen. -/
def Buf (w : World) (F : Nat → Prop) (v : Value) (xs : List Value) : Prop :=
  (v = .slice none 0 0 ∧ xs = []) ∨ ∃ b off cap, v = .slice (some ⟨b, off, none⟩) xs.length cap ∧ F b ∧ b < w.heap.size ∧ xs.length ≤ cap ∧ cap ≤ maxLen ∧
    (∀ j u, xs[j]? = some u → w.cell? ⟨b, off + j, none⟩ = some u) ∧ (∀ j, xs.length ≤ j → j < cap → (w.cell? ⟨b, off + j, none⟩).isSome = true ∧ w.frozen? ⟨b, off + j, none⟩ = false)
section
variable {P : Program} {w w' : World} {F G S : Nat → Prop} {v : Value} {xs : List Value}
theorem Buf.nil (w : World) (F : Nat → Prop) : Buf w F (.slice none 0 0) [] := .inl ⟨rfl, rfl⟩
theorem Buf.form (h : Buf w F v xs) : ∃ A c, v = .slice A xs.length c ∧ Rd w F A xs ∧ xs.length ≤ c := by
  rcases h with ⟨rfl, rfl⟩ | ⟨b, off, cap, rfl, hF, hb, hl, _, hc, _⟩
  · exact ⟨none, 0, rfl, Rd.nil _ _ _, Nat.le_refl _⟩
  · exact ⟨_, cap, rfl, fun j u hu => ⟨_, rfl, hF, by rw [Addr.add_lit]; exact hc j u hu⟩, hl⟩
theorem Buf.own (h : Buf w F v xs) : ∀ k, v.ownBlock = some k → F k ∧ k < w.heap.size := by
  intro k hk
  rcases h with ⟨rfl, rfl⟩ | ⟨b, off, cap, rfl, hF, hb, _⟩
  · cases hk
  · injection hk with hk
    exact ⟨hk ▸ hF, hk ▸ hb⟩
theorem Buf.congr (h : Buf w F v xs) (hs : w.heap.size ≤ w'.heap.size) (hb : ∀ k, v.ownBlock = some k → w'.heap[k]? = w.heap[k]?) : Buf w' F v xs := by
  rcases h with ⟨rfl, rfl⟩ | ⟨b, off, cap, rfl, hF, hlt, hl, hm, hc, hf⟩
  · exact Buf.nil _ _
  · have e := hb b rfl
    exact .inr ⟨b, off, cap, rfl, hF, Nat.lt_of_lt_of_le hlt hs, hl, hm, fun j u hu => (World.cell?_of_block (a := ⟨b, off + j, none⟩) e).trans (hc j u hu), fun j h1 h2 => ⟨by rw [World.cell?_of_block (a := ⟨b, off + j, none⟩) e]; exact (hf j h1 h2).1, (World.frozen?_of_block (a := ⟨b, off + j, none⟩) e).trans (hf j h1 h2).2⟩⟩
theorem Buf.mono (h : Buf w F v xs) (hF : ∀ k, k < w.heap.size → F k → G k) : Buf w G v xs := by
  rcases h with ⟨rfl, rfl⟩ | ⟨b, off, cap, rfl, hk, hlt, rest⟩
  · exact Buf.nil _ _
  · exact .inr ⟨b, off, cap, rfl, hF b hlt hk, hlt, rest⟩
theorem Buf.keep (h : Buf w F v xs) (hf : Fr S w w') (hd : ∀ k, k < w.heap.size → F k → ¬ S k) : Buf w' F v xs :=
  h.congr hf.size fun k hk => hf.block k (h.own k hk).2 (hd k (h.own k hk).2 (h.own k hk).1)
theorem Buf.below (h : Buf w F v xs) (hb : Below w.heap.size w w') : Buf w' F v xs := h.congr hb.size fun k hk => hb.block k (h.own k hk).2
theorem Buf.alloc (h : Buf w F v xs) (o : Obj) : Buf (w.alloc o) F v xs := h.congr (by simp) fun k hk => Below.heap_alloc w o k (h.own k hk).2
theorem Buf.drew (h : Buf w F v xs) : Buf w.drew F v xs := h
theorem Buf.of_own {base : Nat} {e : TypeId} {n : Nat} (h : w.ownsRow base e 1 v n xs) (hF : ∀ k, v.ownBlock = some k → F k) : Buf w F v xs := by
  obtain ⟨hl, h⟩ := h
  rcases h with ⟨rfl, rfl⟩ | ⟨g, cap, cur, rfl, hb, hg, hn, hm, hs, ht⟩
  · have : xs = [] := List.eq_nil_of_length_eq_zero (by omega)
    subst this
    exact Buf.nil _ _
  · have hlt : g < w.heap.size := (Array.getElem?_eq_some_iff.1 hg).1
    have hxl : xs.length = n := by omega
    have hcell : ∀ j, w.cell? ⟨g, 0 + j, none⟩ = cur[j]? := fun j => by rw [Nat.zero_add]; exact cell_of_row w g j cur e (0, 0) hg
    refine .inr ⟨g, 0, cap, by rw [hxl], hF g rfl, hlt, by omega, hm, fun j u hu => ?_, fun j h1 h2 => ⟨?_, ?_⟩⟩
    · rw [hcell, ← Array.getElem?_toList]
      have hj : j < n := by have := (List.getElem?_eq_some_iff.1 hu).1; omega
      rw [← ht, List.getElem?_take, if_pos (by omega)] at hu
      exact hu
    · rw [hcell, Array.getElem?_eq_getElem (by omega)]
      rfl
    · simp [World.frozen?, hg]
theorem setCells_same (b : Nat) : ∀ (vs : List Value) (o : Nat) (w : World), w.grownBy (w.setCells b o vs) (some b) ∧ (w.setCells b o vs).heap.size = w.heap.size
  | [], o, w => ⟨World.grownBy.refl w _, rfl⟩
  | v :: r, o, w => by
    obtain ⟨h, hs⟩ := setCells_same b r (o + 1) (w.setCell ⟨b, o, none⟩ v)
    refine ⟨⟨h.os, h.tape, h.output, ?_, fun k hk hn => ?_⟩, by rw [World.setCells, hs]; simp⟩
    · rw [World.setCells, hs]
      simp
    · exact (h.block k (by simpa using hk) hn).trans (Below.heap_setCell w _ v k (fun e => hn (by rw [e])))
/-- append onto such a slice, from whatever source. -/
theorem run_append_buf (w : World) (t ty e : TypeId) (i : TypeInfo) (z : Value) (bytes : Nat) (ht : P.underlying t = some (.slice e)) (hi : P.info? e = some i) (hz : i.zero = some z)
    (hsize : i.size = 1) (hby : i.bytes = bytes) (hzs : z.cells.size = 1) (h : Buf w F v xs) (A : Option Addr) (c : Nat) (news : List Value) (hr : Rd w G A news) (h1 : ∀ u ∈ news, u.oneCell' = true)
    (h63 : xs.length + news.length ≤ maxLen) (hbytes : (xs.length + news.length) * bytes ≤ 140737488355328) :
    ∃ v' w', (Builtin.append_ #[t, t] ty #[v, .slice A news.length c]).run P w = .ok v' w' ∧ Buf w' (fun k => F k ∨ k = w.heap.size) v' (xs ++ news) ∧ w.grownBy w' v.ownBlock ∧ (v'.ownBlock = v.ownBlock ∨ v'.ownBlock = some w.heap.size) := by
  cases hnw : news with
  | nil =>
    subst hnw
    have hsrc : Src P i.size t (.slice A 0 c) 0 [] w := by
      cases A with
      | none => exact Src.ofNil w ht c
      | some ad => exact Src.ofSlice w ht ad 0 c [] (by simp) (fun j u h => by simp at h) (fun u h => by cases h)
    obtain ⟨A0, c0, rfl, _, hc0⟩ := h.form
    exact ⟨_, w, run_append_nothing w t t ty e i ht hi A0 xs.length c0 hc0 _ hsrc, by rw [List.append_nil]; exact h.mono fun _ _ h => .inl h, World.grownBy.refl w _, .inl rfl⟩
  | cons x0 l0 =>
    rw [← hnw]
    have hpos : 0 < news.length := by rw [hnw]; simp
    obtain ⟨ad, rfl, _, hcells⟩ := hr.some (by rw [hnw]; simp)
    have hlen : (xs ++ news).length = xs.length + news.length := List.length_append
    rcases h with ⟨rfl, rfl⟩ | ⟨b, off, cap, rfl, hF, hlt, hl, hm, hc, hf⟩
    · obtain ⟨v', w', hrun, h2, h3, _, h5⟩ := run_append_own_at (P := P) w w.heap.size t ty e i z 1 bytes ht hi hz hsize hby hzs (by omega) (.slice none 0 0) 0 [] ⟨by simp, .inl ⟨rfl, rfl⟩⟩ ad news.length c news (by omega) hcells h1 (by simpa using h63) (by simpa using hbytes) (Nat.le_refl _)
      refine ⟨v', w', hrun, ?_, h3, h5⟩
      rw [List.nil_append] at h2 ⊢
      refine Buf.of_own h2 fun k hk => .inr ?_
      rcases h5 with h5 | h5
      · rw [h5] at hk
        cases hk
      · rw [h5] at hk
        exact (Option.some.inj hk).symm
    · by_cases hroom : xs.length + news.length ≤ cap
      · have hrun := run_append_room_cells (P := P) w t ty e i ht hi b off xs.length cap ad news.length c news (by rw [hsize, Nat.mul_one]) hcells h1 hroom (fun j hj => by rw [hsize, Nat.mul_one, Nat.add_assoc]; exact (hf (xs.length + j) (by omega) (by omega)).1) (fun j hj => by rw [hsize, Nat.mul_one, Nat.add_assoc]; exact (hf (xs.length + j) (by omega) (by omega)).2)
        rw [hsize, Nat.mul_one] at hrun
        have hthere : ∀ j, j < news.length → (w.cell? ⟨b, off + xs.length + j, none⟩).isSome = true := fun j hj => by rw [Nat.add_assoc]; exact (hf (xs.length + j) (by omega) (by omega)).1
        obtain ⟨hgr, hsz⟩ := setCells_same b news (off + xs.length) w
        refine ⟨_, _, hrun, .inr ⟨b, off, cap, by rw [hlen], .inl hF, by rw [hsz]; exact hlt, by omega, hm, fun j u hu => ?_, fun j h2 h3 => ⟨?_, ?_⟩⟩, hgr, .inl rfl⟩
        · by_cases hj : j < xs.length
          · rw [World.cell?_setCells_out b news (off + xs.length) w ⟨b, off + j, none⟩ (fun _ _ => .inl (by show off + j < off + xs.length; omega))]
            rw [List.getElem?_append_left hj] at hu
            exact hc j u hu
          · rw [List.getElem?_append_right (by omega)] at hu
            have hj2 : j - xs.length < news.length := (List.getElem?_eq_some_iff.1 hu).1
            have := World.cell?_setCells_in b news (off + xs.length) w hthere (j - xs.length) hj2
            rw [show off + xs.length + (j - xs.length) = off + j from by omega] at this
            rw [this, ← hu, List.getElem?_eq_getElem hj2]
        · rw [World.cell?_setCells_out b news (off + xs.length) w ⟨b, off + j, none⟩ (fun _ _ => .inr (by show off + xs.length + news.length ≤ off + j; omega))]
          exact (hf j (by omega) h3).1
        · rw [World.frozen?_setCells]
          exact (hf j (by omega) h3).2
      · have hold : ∀ j u, xs[j]? = some u → w.cell? ((⟨b, off, none⟩ : Addr).add j) = some u := fun j u hu => by rw [Addr.add_lit]; exact hc j u hu
        have hrun := run_append_grow (P := P) w t ty e i z ht hi hz ⟨b, off, none⟩ xs.length cap xs (by rw [hsize, Nat.mul_one]) hold ad news.length c news (by rw [hsize, Nat.mul_one]) hcells (by omega) (by simp only [maxLen] at h63; omega) (growslice_fits (by omega) (by rw [hby]; exact hbytes))
        have hge := grownCap_ge w (xs.length + news.length) cap e
        have hcm := grownCap_le_maxLen w (xs.length + news.length) cap e h63
        refine ⟨_, _, hrun, Buf.of_own (base := w.heap.size) (e := e) (n := xs.length + news.length) ⟨by rw [hlen, Nat.mul_one], .inr ⟨w.heap.size, _, _, rfl, Nat.le_refl _, heap_alloc_new w.drew _, hge, hcm, ?_, ?_⟩⟩ (fun k hk => .inr (Option.some.inj hk).symm), ⟨rfl, rfl, rfl, by simp, fun k hk _ => Below.heap_alloc w.drew _ k hk⟩, .inr rfl⟩
        · simp only [Array.size_append, List.size_toArray, size_zeroCells, hzs]
          omega
        · simp only [Array.toList_append, List.append_assoc]
          rw [← List.append_assoc, Nat.mul_one, ← hlen]
          exact List.take_left
/-- The operation, for the walk. -/
theorem wpList_append_buf (w : World) {ops : Array Oper} {rest : List Oper} {o : Oper} {a : Act} {Q : Exit → Act → World → Prop} (hgd : o.guard = none) (s x : Operand) (t : TypeId)
    (ho : o.op = .call { callee := .builtin .append, args := #[s, x], argTypes := #[t, t] })
    (e : TypeId) (i : TypeInfo) (z : Value) (bytes : Nat) (ht : P.underlying t = some (.slice e)) (hi : P.info? e = some i) (hz : i.zero = some z)
    (hsize : i.size = 1) (hby : i.bytes = bytes) (hzs : z.cells.size = 1) (hs : a.eval s = v) (h : Buf w F v xs) (A : Option Addr) (m c : Nat) (news : List Value) (hx : a.eval x = .slice A m c) (hm : m = news.length) (hr : Rd w G A news) (h1 : ∀ u ∈ news, u.oneCell' = true)
    (h63 : xs.length + news.length ≤ maxLen) (hbytes : (xs.length + news.length) * bytes ≤ 140737488355328)
    (hK : ∀ v' w', Buf w' (fun k => F k ∨ k = w.heap.size) v' (xs ++ news) → w.grownBy w' v.ownBlock → (v'.ownBlock = v.ownBlock ∨ v'.ownBlock = some w.heap.size) → wpList P ops Q rest (a.put o.dst v') w') : wpList P ops Q (o :: rest) a w := by
  subst hm
  refine wpList_plain hgd fun K hk => ?_
  obtain ⟨v', w', hrun, h2, h3, h4⟩ := run_append_buf (P := P) w t o.type e i z bytes ht hi hz hsize hby hzs h A c news hr h1 h63 hbytes
  unfold Oper.wp execOp
  simp only [ho, resolve, invoke, builtin, Sem.run_bind, Sem.run_pure, Result.andThen_ok, List.map_toArray, List.map_cons, List.map_nil, hs, hx, hrun]
  exact hk _ _ (hK v' w' h2 h3 h4)
end
end Go.Proofs.YtbhaekdfpfncnaaDoor
