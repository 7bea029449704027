/- A drawn region whose last but one operation stands behind all others and may write; the last one hands its value on. No program. -/
import Derived.Test.YtbhaekdfpfncnaaDoorSink
namespace Go.Proofs.YtbhaekdfpfncnaaDoor
set_option linter.unusedVariables false
set_option linter.unusedSimpArgs false
open Go.RowKit

section
variable {P : Program} {Q : Exit → Act → World → Prop} {H : Type}

def depAt (ops : Array Oper) (i j : Nat) : Bool := match ops[i]? with | some o => depB o j | none => false
/-- What is reached from S in k steps back. -/
def reachR (ops : Array Oper) (n : Nat) (S : Nat → Bool) : Nat → Nat → Bool
  | 0, j => S j
  | k + 1, j => reachR ops n S k j || (List.range n).any fun i => reachR ops n S k i && depAt ops i j
theorem reach_done {ops : Array Oper} {n : Nat} {S dn : Nat → Bool} (hc : ∀ i j, dn i = true → depAt ops i j = true → dn j = true) (hS : ∀ j, S j = true → dn j = true) : ∀ k j, reachR ops n S k j = true → dn j = true
  | 0, j, h => hS j h
  | k + 1, j, h => by
    unfold reachR at h
    rw [Bool.or_eq_true, List.any_eq_true] at h
    rcases h with h | ⟨i, _, hi⟩
    · exact reach_done hc hS k j h
    · rw [Bool.and_eq_true] at hi
      exact hc i j (reach_done hc hS k i hi.1) hi.2
def lastA (ops : Array Oper) (m len d : Nat) : Bool :=
  Nat.beq ops.size (m + 2) && Nat.beq len m && (match ops[m]? with | some o => (match o.dst with | some e => Nat.beq e d | none => false) && o.guard.isNone && (List.range m).all (fun j => reachR ops m (depB o) 3 j) | none => false) &&
    (match ops[m + 1]? with | some o => o.dst.isSome && o.guard.isNone && depB o m && (match o.op with | .assign (.tmp e) => Nat.beq e d | _ => false) | none => false) && (ops.toList.take m).all (fun o => o.dst.isSome && o.guard.isNone)
def asnT (T0 : World → H → World → H → Prop) (w : World) (γ : H × Option World) (w' : World) (γ' : H × Option World) : Prop :=
  match γ.2, γ'.2 with
  | none, none => T0 w γ.1 w' γ'.1
  | none, some w1 => T0 w γ.1 w1 γ'.1
  | some w1, some w2 => w2 = w1 ∧ γ'.1 = γ.1 ∧ w' = w
  | some _, none => False
def asnP (pr : Nat → Value → World → H → Prop) (R : Value → World → H → World → Prop) (m : Nat) (i : Nat) (v : Value) (w : World) (γ : H × Option World) : Prop :=
  match γ.2 with
  | none => i < m ∧ pr i v w γ.1
  | some w1 => if i < m then pr i v w1 γ.1 else R v w1 γ.1 w
def asnJ (ops : Array Oper) (J0 : (Nat → Bool) → World → H → Prop) (m : Nat) (dn : Nat → Bool) (w : World) (γ : H × Option World) : Prop :=
  match γ.2 with
  | none => dn m = false ∧ (∀ i j, dn i = true → depAt ops i j = true → dn j = true) ∧ J0 dn w γ.1
  | some w1 => ∀ j, j ≤ m → dn j = true

theorem region_assign {T0 : World → H → World → H → Prop} (hTt : ∀ a α b β c δ, T0 a α b β → T0 b β c δ → T0 a α c δ) (hTr : ∀ a α, T0 a α a α) {ops : Array Oper} {a0 : Act} {w0 : World} (η0 : H) {id : Nat} (m d : Nat) (R : Value → World → H → World → Prop) (J0 : (Nat → Bool) → World → H → Prop) (hJ0 : J0 (fun _ => false) w0.drew η0)
    (prs : List (PrG T0)) (hm : P.follows .mixedOrders = true) (hok : okB ops a0.tmps.size = true) (hgd : (ops.toList.all fun o => (match o.guard with | some (j, _) => depB o j | none => true)) = true) (hlast : lastA ops m prs.length d = true)
    (hall : OwesAllG P Q T0 J0 ops (prOfG prs) a0 w0.drew η0 0 (ops.toList.take m))
    (hend : ∀ o a w η, ops[m]? = some o → T0 w0.drew η0 w η → (∀ t, freeB ops t = true → (a.tmps[t]?).getD undef = (a0.tmps[t]?).getD undef) → (∀ j, j < m → depB o j = true → SlotG ops (prOfG prs) a w η j) → StepOp P Q o a w fun v w' => R v w η w')
    (hfin : ∀ (vs : Nat → Value) (w : World) (η : H) (w' : World), T0 w0.drew η0 w η → R (vs (m + 1)) w η w' → wpList P #[] Q (laid vs 0 ops.toList) a0 w') :
    (Code.region id ops true).wp P Q a0 w0 := by
  simp only [lastA, Bool.and_eq_true] at hlast
  obtain ⟨⟨⟨⟨hsz0, hpl0⟩, hlo⟩, hln⟩, hds⟩ := hlast
  have hsz := Nat.eq_of_beq_eq_true hsz0
  have hpl := Nat.eq_of_beq_eq_true hpl0
  obtain ⟨ol, hol⟩ : ∃ o, ops[m]? = some o := ⟨ops[m]'(by omega), Array.getElem?_eq_getElem (by omega)⟩
  obtain ⟨on, hon⟩ : ∃ o, ops[m + 1]? = some o := ⟨ops[m + 1]'(by omega), Array.getElem?_eq_getElem (by omega)⟩
  rw [hol] at hlo
  rw [hon] at hln
  simp only [Bool.and_eq_true, List.all_eq_true, List.mem_range, Option.isNone_iff_eq_none] at hlo hln
  obtain ⟨⟨hod0, hog⟩, hdep⟩ := hlo
  obtain ⟨⟨⟨hnd, hng⟩, hndep⟩, hnop0⟩ := hln
  have hod : ol.dst = some d := by
    cases h : ol.dst with
    | none => rw [h] at hod0; cases hod0
    | some e => rw [h] at hod0; rw [Nat.eq_of_beq_eq_true hod0]
  have hnop : on.op = .assign (.tmp d) := by
    split at hnop0
    · rename_i e h
      rw [h, Nat.eq_of_beq_eq_true hnop0]
    · cases hnop0
  have hdg : ∀ (i : Nat) (o : Oper), ops[i]? = some o → i < m → (o.dst.isSome && o.guard.isNone) = true := fun i o ho hi => by
    rw [List.all_eq_true] at hds
    refine hds o (List.mem_take_iff_getElem.2 ⟨i, ?_, ?_⟩)
    · have := (Array.getElem?_eq_some_iff.1 ho).1
      simp
      omega
    · have := (Array.getElem?_eq_some_iff.1 ho).2
      simpa using this
  have hdst : ∀ (i : Nat) (o : Oper), ops[i]? = some o → i < m → o.dst.isSome = true := fun i o ho hi => by
    have := hdg i o ho hi
    rw [Bool.and_eq_true] at this
    exact this.1
  have hgn : ∀ (i : Nat) (o : Oper), ops[i]? = some o → i < m → o.guard = none := fun i o ho hi => by
    have := hdg i o ho hi
    rw [Bool.and_eq_true, Option.isNone_iff_eq_none] at this
    exact this.2
  have hnone : ∀ (i : Nat) (o : Oper), ops[i]? = some o → o.dst ≠ none := fun i o ho hn => by
    have := (Array.getElem?_eq_some_iff.1 ho).1
    obtain h | rfl | rfl : i < m ∨ i = m ∨ i = m + 1 := by omega
    · have := hdst i o ho h
      rw [hn] at this
      cases this
    · rw [hol] at ho
      injection ho with ho
      rw [← ho, hod] at hn
      cases hn
    · rw [hon] at ho
      injection ho with ho
      rw [ho, hn] at hnd
      cases hnd
  have hdm : dstAt ops m = some d := by
    unfold dstAt
    rw [hol]
    exact hod
  refine region_toG (G := H × Option World) (T := asnT T0) (J := asnJ ops J0 m) ?_ ?_ (η0, none) (fun vs w γ => ∃ w1 η, T0 w0.drew η0 w1 η ∧ R (vs (m + 1)) w1 η w) hm hok hgd ⟨rfl, fun _ _ h => (by cases h), hJ0⟩ ⟨asnP (prOfG prs) R m, ?_, ?_, ?_, ?_⟩ ?_
  · rintro a ⟨α, s⟩ b ⟨β, t⟩ c ⟨δ, u⟩ h1 h2
    cases s <;> cases t <;> cases u <;> simp only [asnT] at h1 h2 ⊢
    · exact hTt _ _ _ _ _ _ h1 h2
    · exact hTt _ _ _ _ _ _ h1 h2
    · obtain ⟨rfl, rfl, rfl⟩ := h2
      exact h1
    · obtain ⟨rfl, rfl, rfl⟩ := h1
      exact h2
  · rintro a ⟨α, s⟩
    cases s
    · exact hTr _ _
    · exact ⟨rfl, rfl, rfl⟩
  · rintro i v w ⟨η, s⟩ w' ⟨η', s'⟩ hp hT
    cases s <;> cases s' <;> simp only [asnT, asnP] at hT hp ⊢
    · exact ⟨hp.1, prOfG_st prs _ _ _ _ _ _ hp.2 hT⟩
    · rw [if_pos hp.1]
      exact prOfG_st prs _ _ _ _ _ _ hp.2 hT
    · obtain ⟨rfl, rfl, rfl⟩ := hT
      exact hp
  · intro i o ho hn
    exact absurd hn (hnone i o ho)
  · refine owes_all fun i o ho => ?_
    rw [Nat.zero_add]
    have hos : ops[i]? = some o := by rw [← Array.getElem?_toList]; exact ho
    have hilt := (Array.getElem?_eq_some_iff.1 hos).1
    obtain hi | rfl | rfl : i < m ∨ i = m ∨ i = m + 1 := by omega
    · have h0 := owes_getG hall i o (by rw [List.getElem?_take, if_pos hi]; exact ho)
      rw [Nat.zero_add] at h0
      have hdm1 : ∀ (dn : Nat → Bool), did dn i m = dn m := fun dn => by unfold did; rw [if_neg (by omega)]
      have hcl : ∀ (dn : Nat → Bool), (∀ j, depB o j = true → dn j = true) → (∀ i j, dn i = true → depAt ops i j = true → dn j = true) → ∀ i' j, did dn i i' = true → depAt ops i' j = true → did dn i j = true := fun dn h1 h2 i' j hi' hd => by
        have hdj : dn j = true := by
          by_cases e : i' = i
          · subst e
            unfold depAt at hd
            rw [hos] at hd
            exact h1 j hd
          · unfold did at hi'
            rw [if_neg e] at hi'
            exact h2 i' j hi' hd
        unfold did
        split
        · rfl
        · exact hdj
      have hjm : ∀ j, depB o j = true → j < m := fun j hj => by
        have hok' := hok
        simp only [okB, Bool.and_eq_true, decide_eq_true_eq] at hok'
        have h1 := List.all_eq_true.1 hok'.2 (o, i) (by
          rw [List.mem_zipIdx_iff_getElem?]
          simpa using hos)
        unfold depB at hj
        rw [List.any_eq_true] at hj
        obtain ⟨e, he, hb⟩ := hj
        rw [Bool.and_eq_true] at hb
        have h2 := List.all_eq_true.1 h1 e (by simpa using he)
        simp [hb.1] at h2
        have := Nat.eq_of_beq_eq_true hb.2
        omega
      rcases h0 with ⟨hg, hstep⟩ | ⟨j, want, hg, hd, hne, hu, hj⟩
      · refine Or.inl ⟨fun j want h => ⟨(hg j want h).1, fun v w γ hp => ?_⟩, ?_⟩
        · have hjlt : j < m := by
            have h1 := List.all_eq_true.1 hgd o (by simpa using Array.mem_of_getElem? hos)
            rw [h] at h1
            exact hjm j h1
          unfold asnP at hp
          split at hp
          · exact (hg j want h).2 _ _ _ hp.2
          · rw [if_pos hjlt] at hp
            exact (hg j want h).2 _ _ _ hp
        · rintro dn a w ⟨η, s⟩ hT hdn hdp hJ hf hsl
          cases s with
          | some w1 =>
            have := hJ i (by omega)
            rw [hdn] at this
            cases this
          | none =>
            refine stepOp_mono (hstep dn a w η hT hdn hdp hJ.2.2 hf fun j hj => ?_) ?_
            · have := hsl j hj
              unfold SlotG at this ⊢
              split
              · rename_i dd hdd
                rw [hdd] at this
                obtain ⟨v, h1, h2⟩ := this
                exact ⟨v, h1, h2.2⟩
              · rename_i hdd
                rw [hdd] at this
                exact this.2
            · rintro v w' ⟨η', h1, hj1, h2⟩
              exact ⟨(η', none), h1, ⟨(hdm1 dn).trans hJ.1, hcl dn hdp hJ.2.1, hj1⟩, hi, h2⟩
      · rw [hgn i o hos hi] at hg
        cases hg
    · rw [hol] at hos
      injection hos with hos
      subst hos
      refine Or.inl ⟨fun j want h => (by rw [hog] at h; cases h), ?_⟩
      rintro dn a w ⟨η, s⟩ hT hdn hdp hJ hf hsl
      cases s with
      | some w1 =>
        have := hJ i (Nat.le_refl _)
        rw [hdn] at this
        cases this
      | none =>
        refine stepOp_mono (hend ol a w η hol hT hf fun j hj hdj => ?_) ?_
        · have := hsl j hdj
          unfold SlotG at this ⊢
          split
          · rename_i dd hdd
            rw [hdd] at this
            obtain ⟨v, h1, h2⟩ := this
            exact ⟨v, h1, h2.2⟩
          · rename_i hdd
            rw [hdd] at this
            exact this.2
        · rintro v w' hR
          refine ⟨(η, some w), hTr _ _, fun j hj => ?_, ?_⟩
          · unfold did
            split
            · rfl
            · exact reach_done hJ.2.1 hdp 3 j (hdep j (by omega))
          · show if i < i then _ else _
            rw [if_neg (by omega)]
            exact hR
    · rw [hon] at hos
      injection hos with hos
      subst hos
      refine Or.inl ⟨fun j want h => (by rw [hng] at h; cases h), ?_⟩
      rintro dn a w ⟨η, s⟩ hT hdn hdp hJ hf hsl
      cases s with
      | none =>
        have := hdp m hndep
        rw [hJ.1] at this
        cases this
      | some w1 =>
        have := hsl m hndep
        unfold SlotG at this
        rw [hdm] at this
        obtain ⟨v, h1, h2⟩ := this
        refine step_val (w' := w) (v := v) (by simp only [execOp, hnop]; rw [show a.eval (.tmp d) = v from (eval_slot a d).trans h1]; rfl) ⟨(η, some w1), ⟨rfl, rfl, rfl⟩, fun j hj => ?_, ?_⟩
        · unfold did
          split
          · rfl
          · exact hJ j hj
        · have h2' : (if m < m then prOfG prs m v w1 η else R v w1 η w) := h2
          rw [if_neg (by omega)] at h2'
          show if m + 1 < m then _ else _
          rw [if_neg (by omega)]
          exact h2'
  · rintro vs w ⟨η, s⟩ hT hJ hp
    cases s with
    | none =>
      exfalso
      have h : doneOf (Array.replicate ops.size true) m = false := hJ.1
      unfold doneOf at h
      rw [Array.getD_eq_getD_getElem?, Array.getElem?_replicate, if_pos (by omega)] at h
      cases h
    | some w1 =>
      refine ⟨w1, η, hT, ?_⟩
      have h := hp (m + 1) (by unfold dstAt; rw [hon]; exact hnd)
      have h' : (if m + 1 < m then prOfG prs (m + 1) (vs (m + 1)) w1 η else R (vs (m + 1)) w1 η w) := h
      rwa [if_neg (by omega)] at h'
  · rintro vs w γ _ ⟨w1, η, h1, h2⟩
    exact hfin vs w1 η w h1 h2
end
end Go.Proofs.YtbhaekdfpfncnaaDoor
