/- A drawn region whose last operation, a store, stands behind all others: the others make new memory at most; the store is taken by itself. No program. -/
import Derived.Test.YtbhaekdfpfncnaaDoorRegionG
import Derived.Test.YtbhaekdfpfncnaaDoorWords
namespace Go.Proofs.YtbhaekdfpfncnaaDoor
set_option linter.unusedVariables false
set_option linter.unusedSimpArgs false
open Go.RowKit

section
variable {P : Program} {Q : Exit → Act → World → Prop} {H : Type}

def lastB (ops : Array Oper) (m len : Nat) : Bool :=
  Nat.beq ops.size (m + 1) && Nat.beq len m && (match ops[m]? with | some o => o.dst.isNone && o.guard.isNone && (List.range m).all (fun j => depB o j) | none => false) && (ops.toList.take m).all (fun o => o.dst.isSome)
def sinkT (T0 : World → H → World → H → Prop) (w : World) (γ : H × Option World) (w' : World) (γ' : H × Option World) : Prop :=
  match γ.2, γ'.2 with
  | none, none => T0 w γ.1 w' γ'.1
  | none, some w1 => T0 w γ.1 w1 γ'.1
  | some w1, some w2 => w2 = w1 ∧ γ'.1 = γ.1
  | some _, none => False
def sinkP (pr : Nat → Value → World → H → Prop) (i : Nat) (v : Value) (w : World) (γ : H × Option World) : Prop :=
  match γ.2 with
  | none => pr i v w γ.1
  | some w1 => pr i v w1 γ.1
def sinkJ (J0 : (Nat → Bool) → World → H → Prop) (R : World → H → World → Prop) (m : Nat) (dn : Nat → Bool) (w : World) (γ : H × Option World) : Prop :=
  match γ.2 with
  | none => dn m = false ∧ J0 dn w γ.1
  | some w1 => (∀ j, j ≤ m → dn j = true) ∧ R w1 γ.1 w

theorem stepOp_mono {o : Oper} {a : Act} {w : World} {Φ Ψ : Value → World → Prop} (h : StepOp P Q o a w Φ) (hh : ∀ v w', Φ v w' → Ψ v w') : StepOp P Q o a w Ψ := fun K hK => h K fun v w' hv => hK v w' (hh v w' hv)
theorem owes_all {G : Type} {T : World → G → World → G → Prop} {J : (Nat → Bool) → World → G → Prop} {ops : Array Oper} {pr : Nat → Value → World → G → Prop} {a0 : Act} {w0 : World} {γ0 : G} : ∀ {l : List Oper} {k : Nat}, (∀ i o, l[i]? = some o → OwesG P Q T J ops pr a0 w0 γ0 (k + i) o) → OwesAllG P Q T J ops pr a0 w0 γ0 k l
  | [], _, _ => trivial
  | x :: l, k, h => ⟨h 0 x rfl, owes_all fun i o ho => by
    have := h (i + 1) o (by simpa using ho)
    rwa [show k + (i + 1) = k + 1 + i from by omega] at this⟩

theorem region_sink {T0 : World → H → World → H → Prop} (hTt : ∀ a α b β c δ, T0 a α b β → T0 b β c δ → T0 a α c δ) (hTr : ∀ a α, T0 a α a α) {ops : Array Oper} {a0 : Act} {w0 : World} (η0 : H) {id : Nat} (m : Nat) (R : World → H → World → Prop) (J0 : (Nat → Bool) → World → H → Prop) (hJ0 : J0 (fun _ => false) w0.drew η0)
    (prs : List (PrG T0)) (hm : P.follows .mixedOrders = true) (hok : okB ops a0.tmps.size = true) (hgd : (ops.toList.all fun o => (match o.guard with | some (j, _) => depB o j | none => true)) = true) (hlast : lastB ops m prs.length = true)
    (hall : OwesAllG P Q T0 J0 ops (prOfG prs) a0 w0.drew η0 0 (ops.toList.take m))
    (hend : ∀ o a w η, ops[m]? = some o → T0 w0.drew η0 w η → (∀ t, freeB ops t = true → (a.tmps[t]?).getD undef = (a0.tmps[t]?).getD undef) → (∀ j, j < m → SlotG ops (prOfG prs) a w η j) → StepOp P Q o a w fun _ w' => R w η w')
    (hfin : ∀ (vs : Nat → Value) (w : World) (η : H) (w' : World), T0 w0.drew η0 w η → (∀ j, j < m → prOfG prs j (vs j) w η) → R w η w' → wpList P #[] Q (laid vs 0 ops.toList) a0 w') :
    (Code.region id ops true).wp P Q a0 w0 := by
  simp only [lastB, Bool.and_eq_true] at hlast
  obtain ⟨⟨⟨hsz0, hpl0⟩, hlo⟩, hds⟩ := hlast
  have hsz := Nat.eq_of_beq_eq_true hsz0
  have hpl := Nat.eq_of_beq_eq_true hpl0
  obtain ⟨ol, hol⟩ : ∃ o, ops[m]? = some o := ⟨ops[m]'(by omega), Array.getElem?_eq_getElem (by omega)⟩
  rw [hol] at hlo
  simp only [Bool.and_eq_true, List.all_eq_true, List.mem_range, Option.isNone_iff_eq_none] at hlo
  obtain ⟨⟨hod, hog⟩, hdep⟩ := hlo
  have hdst : ∀ i o, ops[i]? = some o → i < m → o.dst.isSome = true := fun i o ho hi => by
    rw [List.all_eq_true] at hds
    refine hds o (List.mem_take_iff_getElem.2 ⟨i, ?_, ?_⟩)
    · have := (Array.getElem?_eq_some_iff.1 ho).1
      simp
      omega
    · have := (Array.getElem?_eq_some_iff.1 ho).2
      simpa using this
  have hprm : ∀ v w η, prOfG prs m v w η := fun v w η => by
    unfold prOfG
    rw [List.getElem?_eq_none (by omega)]
    trivial
  refine region_toG (G := H × Option World) (T := sinkT T0) (J := sinkJ J0 R m) ?_ ?_ (η0, none) (fun vs w γ => ∃ w1 η, T0 w0.drew η0 w1 η ∧ (∀ j, j < m → prOfG prs j (vs j) w1 η) ∧ R w1 η w) hm hok hgd ⟨rfl, hJ0⟩ ⟨sinkP (prOfG prs), ?_, ?_, ?_, ?_⟩ ?_
  · rintro a ⟨α, s⟩ b ⟨β, t⟩ c ⟨δ, u⟩ h1 h2
    cases s <;> cases t <;> cases u <;> simp only [sinkT] at h1 h2 ⊢
    · exact hTt _ _ _ _ _ _ h1 h2
    · exact hTt _ _ _ _ _ _ h1 h2
    · obtain ⟨rfl, rfl⟩ := h2
      exact h1
    · obtain ⟨rfl, rfl⟩ := h1
      exact h2
  · rintro a ⟨α, s⟩
    cases s
    · exact hTr _ _
    · exact ⟨rfl, rfl⟩
  · rintro i v w ⟨η, s⟩ w' ⟨η', s'⟩ hp hT
    cases s <;> cases s' <;> simp only [sinkT, sinkP] at hT hp ⊢
    · exact prOfG_st prs _ _ _ _ _ _ hp hT
    · exact prOfG_st prs _ _ _ _ _ _ hp hT
    · obtain ⟨rfl, rfl⟩ := hT
      exact hp
  · intro i o ho hn v w γ _
    have him : i = m := by
      rcases Nat.lt_or_ge i m with h | h
      · have := hdst i o ho h
        rw [hn] at this
        cases this
      · have := (Array.getElem?_eq_some_iff.1 ho).1
        omega
    subst him
    unfold sinkP
    split <;> exact hprm _ _ _
  · refine owes_all fun i o ho => ?_
    rw [Nat.zero_add]
    have hos : ops[i]? = some o := by rw [← Array.getElem?_toList]; exact ho
    rcases Nat.lt_or_ge i m with hi | hi
    · have h0 := owes_getG hall i o (by rw [List.getElem?_take, if_pos hi]; exact ho)
      rw [Nat.zero_add] at h0
      rcases h0 with ⟨hg, hstep⟩ | ⟨j, want, hg, hd, hne, hu, hj⟩
      · refine Or.inl ⟨fun j want h => ⟨(hg j want h).1, fun v w γ hp => ?_⟩, ?_⟩
        · unfold sinkP at hp
          split at hp <;> exact (hg j want h).2 _ _ _ hp
        · rintro dn a w ⟨η, s⟩ hT hdn hdp hJ hf hsl
          cases s with
          | some w1 =>
            have := hJ.1 i (by omega)
            rw [hdn] at this
            cases this
          | none =>
            refine stepOp_mono (hstep dn a w η hT hdn hdp hJ.2 hf hsl) ?_
            rintro v w' ⟨η', h1, hj1, h2⟩
            refine ⟨(η', none), h1, ⟨?_, hj1⟩, h2⟩
            show did dn i m = false
            unfold did
            rw [if_neg (by omega)]
            exact hJ.1
      · refine Or.inr ⟨j, want, hg, hd, fun v w γ hp => ?_, fun w γ => ?_, fun dn w γ hdn hJ => ?_⟩
        · unfold sinkP at hp
          split at hp <;> exact hne _ _ _ hp
        · unfold sinkP
          split <;> exact hu _ _
        · unfold sinkJ at hJ ⊢
          split
          · rename_i hs
            simp only [hs] at hJ
            refine ⟨?_, hj dn w γ.1 hdn hJ.2⟩
            show did dn i m = false
            unfold did
            rw [if_neg (by omega)]
            exact hJ.1
          · rename_i w1 hs
            simp only [hs] at hJ
            have := hJ.1 i (by omega)
            rw [hdn] at this
            cases this
    · have him : i = m := by
        have := (Array.getElem?_eq_some_iff.1 hos).1
        omega
      subst him
      rw [hol] at hos
      injection hos with hos
      subst hos
      refine Or.inl ⟨fun j want h => (by rw [hog] at h; cases h), ?_⟩
      rintro dn a w ⟨η, s⟩ hT hdn hdp hJ hf hsl
      cases s with
      | some w1 =>
        have := hJ.1 i (Nat.le_refl _)
        rw [hdn] at this
        cases this
      | none =>
        refine stepOp_mono (hend ol a w η hol hT hf fun j hj => hsl j (hdep j hj)) ?_
        rintro v w' hR
        refine ⟨(η, some w), hTr _ _, ⟨fun j hj => ?_, hR⟩, hprm _ _ _⟩
        unfold did
        split
        · rfl
        · exact hdp j (hdep j (by omega))
  · rintro vs w ⟨η, s⟩ hT hJ hp
    cases s with
    | none =>
      exfalso
      have h : doneOf (Array.replicate ops.size true) m = false := hJ.1
      unfold doneOf at h
      rw [Array.getD_eq_getD_getElem?, Array.getElem?_replicate, if_pos (by omega)] at h
      cases h
    | some w1 =>
      refine ⟨w1, η, hT, fun j hj => ?_, hJ.2⟩
      refine hp j ?_
      have hjs : ops[j]? = some (ops[j]'(by omega)) := Array.getElem?_eq_getElem (by omega)
      have := hdst j _ hjs hj
      unfold dstAt
      rw [hjs]
      exact this
  · rintro vs w γ _ ⟨w1, η, h1, h2, h3⟩
    exact hfin vs w1 η w h1 h2 h3

/-- No invariant. -/
def noJ (dn : Nat → Bool) (w : World) (γ : H) : Prop := True
/-- New memory alone, no ghost. -/
def newT (w : World) (_ : Unit) (w' : World) (_ : Unit) : Prop := NewMem w w'
theorem newT_refl (w : World) (γ : Unit) : newT w γ w γ := NewMem.refl w
theorem newT_trans (a : World) (α : Unit) (b : World) (β : Unit) (c : World) (δ : Unit) (h : newT a α b β) (k : newT b β c δ) : newT a α c δ := NewMem.trans a b c h k
def PrG.bytesN (l : List UInt8) : PrG newT := ⟨fun v w _ => ∃ A c, v = .slice A l.length c ∧ Rd w (fun _ => True) A (bc l) ∧ l.length ≤ c, fun _ _ _ _ _ ⟨A, c, e, h, hc⟩ ht => ⟨A, c, e, h.below ht, hc⟩⟩
def PrG.listsN (ls : List (List UInt8)) : PrG newT := ⟨fun v w _ => ∃ A c, v = .slice A ls.length c ∧ RdL w (fun _ => True) A ls ∧ ls.length ≤ c, fun _ _ _ _ _ ⟨A, c, e, h, hc⟩ ht => ⟨A, c, e, h.below ht, hc⟩⟩
theorem nojT (_ : (0 : Nat) ≠ 1) (_ : True) : True := trivial
end
end Go.Proofs.YtbhaekdfpfncnaaDoor
