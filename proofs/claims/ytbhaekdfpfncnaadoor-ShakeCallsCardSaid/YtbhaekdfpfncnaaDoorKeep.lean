/- Worlds in which cells stay and marks may turn: for a conversion of bytes to bytes, which marks their row. -/
import Derived.Test.YtbhaekdfpfncnaaDoorShE
import Derived.Test.YtbhaekdfpfncnaaDoorApp
namespace Go.Proofs.YtbhaekdfpfncnaaDoor
set_option linter.unusedVariables false
set_option linter.unusedSimpArgs false
open Go.RowKit

theorem freeze_heap (w : World) (a : Addr) (n k : Nat) : (w.freeze a n).heap[k]? = w.heap[k]? ∨ ∃ c e fr fr', w.heap[k]? = some (.cells c e fr) ∧ (w.freeze a n).heap[k]? = some (.cells c e fr') := by
  unfold World.freeze
  split
  · exact Or.inl rfl
  · show (w.heap.modify a.block _)[k]? = _ ∨ ∃ c e fr fr', _ ∧ (w.heap.modify a.block _)[k]? = _
    rw [Array.getElem?_modify]
    by_cases hk : a.block = k
    · rw [if_pos hk]
      cases h : w.heap[k]? with
      | none => exact Or.inl rfl
      | some o =>
        cases o with
        | cells c e fr =>
          obtain ⟨lo, hi⟩ := fr
          exact Or.inr ⟨c, e, (lo, hi), _, rfl, rfl⟩
        | _ => exact Or.inl rfl
    · rw [if_neg hk]
      exact Or.inl rfl
theorem freeze_cell {w : World} {a x : Addr} {n : Nat} {v : Value} (h : w.cell? x = some v) : (w.freeze a n).cell? x = some v := by
  unfold World.cell? at h ⊢
  rcases freeze_heap w a n x.block with he | ⟨c, e, fr, fr', h1, h2⟩
  · rw [he]; exact h
  · rw [h1] at h
    rw [h2]
    exact h
theorem freeze_shape {w : World} {a : Addr} {n r : Nat} {s : TypeId × Nat} (h : w.shape? r = some s) : (w.freeze a n).shape? r = some s := by
  unfold World.shape? at h ⊢
  rcases freeze_heap w a n r with he | ⟨c, e, fr, fr', h1, h2⟩
  · rw [he]; exact h
  · rw [h1] at h
    rw [h2]
    exact h
theorem freeze_below {B : Nat} {a w : World} (h : Below B a w) {p : Addr} (hp : B ≤ p.block) (n : Nat) : Below B a (w.freeze p n) := by
  refine h.trans ⟨?_, ?_, ?_, ?_, fun k hk => ?_⟩
  · unfold World.freeze; split <;> rfl
  · unfold World.freeze; split <;> rfl
  · unfold World.freeze; split <;> rfl
  · unfold World.freeze; split <;> simp
  · unfold World.freeze
    split
    · rfl
    · show (w.heap.modify p.block _)[k]? = _
      rw [Array.getElem?_modify, if_neg (by omega)]
theorem run_conv_same {P : Program} (w : World) (t e : TypeId) (b n c m : Nat) (ht : P.underlying t = some (.slice e)) (he : P.underlying e = some (.int .u8)) (hs : w.shape? b = some (e, m)) :
    (convert t t (.slice (some ⟨b, 0, none⟩) n c)).run P w = .ok (.slice (some ⟨b, 0, none⟩) n c) (w.freeze ⟨b, m, none⟩ 1) := by
  simp [convert, run_underlying ht, run_underlying he, markStringish, hs, Sem.run_bind, Result.andThen]

def keepT (B : Nat) (w : World) (_ : Unit) (w' : World) (_ : Unit) : Prop := Below B w w' ∧ (∀ a v, w.cell? a = some v → w'.cell? a = some v) ∧ ∀ r s, w.shape? r = some s → w'.shape? r = some s
theorem keepT_refl (B : Nat) (w : World) (γ : Unit) : keepT B w γ w γ := ⟨Below.refl _ _, fun _ _ h => h, fun _ _ h => h⟩
theorem keepT_trans (B : Nat) (a : World) (α : Unit) (b : World) (β : Unit) (c : World) (δ : Unit) (h : keepT B a α b β) (k : keepT B b β c δ) : keepT B a α c δ := ⟨h.1.trans k.1, fun x v hx => k.2.1 x v (h.2.1 x v hx), fun r s hs => k.2.2 r s (h.2.2 r s hs)⟩
theorem new_cell {w w' : World} (h : NewMem w w') {a : Addr} {v : Value} (hc : w.cell? a = some v) : w'.cell? a = some v := by
  rw [World.cell?_of_block (h.block a.block (block_lt_of_cell hc))]
  exact hc
theorem keepT_new {B : Nat} {w w' : World} (h : NewMem w w') (hB : B ≤ w.heap.size) : keepT B w () w' () := ⟨⟨h.os, h.tape, h.output, h.size, fun k hk => h.block k (by omega)⟩, fun a v hc => new_cell h hc, fun r s hs => by
  unfold World.shape? at hs ⊢
  rw [h.block r (by
    rcases Nat.lt_or_ge r w.heap.size with hl | hl
    · exact hl
    · rw [Array.getElem?_eq_none hl] at hs
      cases hs)]
  exact hs⟩
theorem Rd.keepT {B : Nat} {w w' : World} {γ γ' : Unit} {F : Nat → Prop} {A : Option Addr} {xs : List Value} (h : Rd w F A xs) (ht : keepT B w γ w' γ') : Rd w' F A xs := fun j u hu => by
  obtain ⟨ad, e, hF, hc⟩ := h j u hu
  exact ⟨ad, e, hF, ht.2.1 _ _ hc⟩
def PrG.bytesK (B : Nat) (l : List UInt8) : PrG (keepT B) := ⟨fun v w _ => ∃ A c, v = .slice A l.length c ∧ Rd w (fun _ => True) A (bc l) ∧ l.length ≤ c, fun _ _ _ _ _ ⟨A, c, e, h, hc⟩ ht => ⟨A, c, e, h.keepT ht, hc⟩⟩
def PrG.rowK (B : Nat) (l : List UInt8) : PrG (keepT B) := ⟨fun v w _ => ∃ b, v = .slice (some ⟨b, 0, none⟩) l.length l.length ∧ Rd w (fun _ => True) (some ⟨b, 0, none⟩) (bc l) ∧ B ≤ b ∧ w.shape? b = some (5, l.length), fun _ _ _ _ _ ⟨b, e, h, hb, hs⟩ ht => ⟨b, e, h.keepT ht, hb, ht.2.2 _ _ hs⟩⟩
theorem keepT_size {B : Nat} {w W : World} {γ γ' : Unit} (h : keepT B w.drew γ W γ') (hB : B = w.heap.size) : B ≤ W.heap.size := by
  have := h.1.size
  simp at this
  omega
theorem keepT_nm {w W : World} {γ γ' : Unit} (h : keepT w.heap.size w.drew γ W γ') : NewMem w W := ⟨h.1.os, h.1.tape, h.1.output, h.1.size, h.1.block⟩
end Go.Proofs.YtbhaekdfpfncnaaDoor
