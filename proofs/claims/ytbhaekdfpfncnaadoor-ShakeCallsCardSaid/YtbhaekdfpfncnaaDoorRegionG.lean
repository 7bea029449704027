/- The law for drawn regions once more, with a ghost beside the world: what has been done so far, an invariant of both, and slots said of both. -/
import Derived.Test.YtbhaekdfpfncnaaDoorRegion
namespace Go.Proofs.YtbhaekdfpfncnaaDoor
set_option linter.unusedVariables false
set_option linter.unusedSimpArgs false
open Go.RowKit

section
variable {P : Program} {Q : Exit → Act → World → Prop} {G : Type}

/-- One operation more has been done. -/
def did (dn : Nat → Bool) (i : Nat) : Nat → Bool := fun j => if j = i then true else dn j
def doneOf (listed : Array Bool) : Nat → Bool := fun j => listed.getD j false
theorem did_of {listed : Array Bool} {i : Nat} (h : i < listed.size) : doneOf (listed.setIfInBounds i true) = did (doneOf listed) i := by
  funext j
  unfold did doneOf
  by_cases e : j = i
  · subst e
    rw [if_pos rfl, Array.getD_eq_getD_getElem?, Array.getElem?_setIfInBounds_self_of_lt h]
    rfl
  · rw [if_neg e, Array.getD_eq_getD_getElem?, Array.getElem?_setIfInBounds_ne (Ne.symm e), ← Array.getD_eq_getD_getElem?]
/-- What slot j holds. -/
def SlotG (ops : Array Oper) (pr : Nat → Value → World → G → Prop) (a : Act) (w : World) (γ : G) (j : Nat) : Prop :=
  match dstAt ops j with
  | some d => ∃ v, (a.tmps[d]?).getD undef = v ∧ pr j v w γ
  | none => pr j undef w γ
def OwesG (P : Program) (Q : Exit → Act → World → Prop) (T : World → G → World → G → Prop) (J : (Nat → Bool) → World → G → Prop) (ops : Array Oper) (pr : Nat → Value → World → G → Prop) (a0 : Act) (w0 : World) (γ0 : G) (i : Nat) (o : Oper) : Prop :=
  ((∀ j want, o.guard = some (j, want) → (dstAt ops j).isSome = true ∧ ∀ v w γ, pr j v w γ → v = .bool want) ∧
    ∀ dn a w γ, T w0 γ0 w γ → dn i = false → (∀ j, depB o j = true → dn j = true) → J dn w γ → (∀ t, freeB ops t = true → (a.tmps[t]?).getD undef = (a0.tmps[t]?).getD undef) → (∀ j, depB o j = true → SlotG ops pr a w γ j) → StepOp P Q o a w fun v w' => ∃ γ', T w γ w' γ' ∧ J (did dn i) w' γ' ∧ pr i v w' γ') ∨
  (∃ j want, o.guard = some (j, want) ∧ (dstAt ops j).isSome = true ∧ (∀ v w γ, pr j v w γ → v ≠ .bool want) ∧ (∀ w γ, pr i undef w γ) ∧ ∀ dn w γ, dn i = false → J dn w γ → J (did dn i) w γ)
def OwesAllG (P : Program) (Q : Exit → Act → World → Prop) (T : World → G → World → G → Prop) (J : (Nat → Bool) → World → G → Prop) (ops : Array Oper) (pr : Nat → Value → World → G → Prop) (a0 : Act) (w0 : World) (γ0 : G) : Nat → List Oper → Prop
  | _, [] => True
  | i, o :: rest => OwesG P Q T J ops pr a0 w0 γ0 i o ∧ OwesAllG P Q T J ops pr a0 w0 γ0 (i + 1) rest
theorem owes_getG {T : World → G → World → G → Prop} {J : (Nat → Bool) → World → G → Prop} {ops : Array Oper} {pr : Nat → Value → World → G → Prop} {a0 : Act} {w0 : World} {γ0 : G} : ∀ {l : List Oper} {k : Nat}, OwesAllG P Q T J ops pr a0 w0 γ0 k l → ∀ i o, l[i]? = some o → OwesG P Q T J ops pr a0 w0 γ0 (k + i) o
  | [], _, _, i, o, h => by simp at h
  | x :: l, k, h, 0, o, ho => by
    simp at ho
    subst ho
    exact h.1
  | x :: l, k, h, i + 1, o, ho => by
    have := owes_getG h.2 i o (by simpa using ho)
    rwa [show k + 1 + i = k + (i + 1) from by omega] at this

structure RInvG (T : World → G → World → G → Prop) (J : (Nat → Bool) → World → G → Prop) (ops : Array Oper) (pr : Nat → Value → World → G → Prop) (a0 : Act) (w0 : World) (γ0 : G) (listed : Array Bool) (a : Act) (w : World) (γ : G) : Prop where
  size : listed.size = ops.size
  tsize : a.tmps.size = a0.tmps.size
  defers : a.defers = a0.defers
  world : T w0 γ0 w γ
  inv : J (doneOf listed) w γ
  free : ∀ t, (∀ j d, listed.getD j false = true → dstAt ops j = some d → d ≠ t) → a.tmps[t]? = a0.tmps[t]?
  slot : ∀ j, listed.getD j false = true → SlotG ops pr a w γ j

theorem rinv_putG {T : World → G → World → G → Prop} {J : (Nat → Bool) → World → G → Prop} {ops : Array Oper} {pr : Nat → Value → World → G → Prop} {a0 : Act} {w0 w w' : World} {γ0 γ γ' : G} {listed : Array Bool} {a : Act} {i : Nat} {o : Oper} {v : Value} {n : Nat}
    (hst : ∀ i v w γ w' γ', pr i v w γ → T w γ w' γ' → pr i v w' γ') (hTt : ∀ a α b β c δ, T a α b β → T b β c δ → T a α c δ) (hok : okB ops a0.tmps.size = true) (ho : ops[i]? = some o)
    (h : RInvG T J ops pr a0 w0 γ0 listed a w γ) (ht : T w γ w' γ') (hJ : J (did (doneOf listed) i) w' γ') (hv : pr i (match o.dst with | some _ => v | none => undef) w' γ') : RInvG T J ops pr a0 w0 γ0 (listed.setIfInBounds i true) (a.put o.dst v) w' γ' := by
  simp only [okB, Bool.and_eq_true, decide_eq_true_eq] at hok
  have hnd := hok.1.1
  have hlt : i < ops.size := (Array.getElem?_eq_some_iff.1 ho).1
  have hdi : dstAt ops i = o.dst := by simp [dstAt, ho]
  have hgl : ∀ j, (listed.setIfInBounds i true).getD j false = true → j = i ∨ listed.getD j false = true := by
    intro j hj
    by_cases e : j = i
    · exact Or.inl e
    · refine Or.inr ?_
      rw [Array.getD_eq_getD_getElem?, Array.getElem?_setIfInBounds_ne (Ne.symm e)] at hj
      rw [Array.getD_eq_getD_getElem?]
      exact hj
  have hgi : (listed.setIfInBounds i true).getD i false = true := by
    rw [Array.getD_eq_getD_getElem?, Array.getElem?_setIfInBounds_self_of_lt (by rw [h.size]; exact hlt)]
    rfl
  refine ⟨by simpa using h.size, ?_, ?_, hTt _ _ _ _ _ _ h.world ht, by rw [did_of (by rw [h.size]; exact hlt)]; exact hJ, ?_, ?_⟩
  · rw [← h.tsize]
    cases o.dst <;> simp [Act.put]
  · rw [← h.defers]
    cases o.dst <;> rfl
  · intro t hfree
    rw [tmps_put a o.dst v t (fun e => hfree i t hgi (by rw [hdi, e]) rfl)]
    refine h.free t fun j d hj hd => hfree j d ?_ hd
    by_cases e : j = i
    · subst e; exact hgi
    · rw [Array.getD_eq_getD_getElem?, Array.getElem?_setIfInBounds_ne (Ne.symm e), ← Array.getD_eq_getD_getElem?]
      exact hj
  · intro j hj
    unfold SlotG
    rcases hgl j hj with rfl | hl
    · rw [hdi]
      cases hd : o.dst with
      | none => rw [hd] at hv; exact hv
      | some d =>
        rw [hd] at hv
        refine ⟨v, ?_, hv⟩
        have hdn : d < a0.tmps.size := by
          have := List.all_eq_true.1 hok.1.2 d (List.mem_filterMap.2 ⟨o, by rw [← Array.getElem?_toList] at ho; exact List.mem_of_getElem? ho, hd⟩)
          simpa using this
        simp [Act.eval, Act.put, Array.getD_eq_getD_getElem?, Array.getElem?_setIfInBounds_self_of_lt (show d < a.tmps.size by rw [h.tsize]; exact hdn)]
    · have hs := h.slot j hl
      unfold SlotG at hs
      cases hd : dstAt ops j with
      | none => rw [hd] at hs; exact hst _ _ _ _ _ _ hs ht
      | some d =>
        rw [hd] at hs
        obtain ⟨u, hu, hp⟩ := hs
        by_cases e : j = i
        · subst e
          rw [hdi] at hd
          rw [hd] at hv ⊢
          refine ⟨v, ?_, hv⟩
          have hdn : d < a0.tmps.size := by
            have := List.all_eq_true.1 hok.1.2 d (List.mem_filterMap.2 ⟨o, by rw [← Array.getElem?_toList] at ho; exact List.mem_of_getElem? ho, hd⟩)
            simpa using this
          simp [Act.eval, Act.put, Array.getD_eq_getD_getElem?, Array.getElem?_setIfInBounds_self_of_lt (show d < a.tmps.size by rw [h.tsize]; exact hdn)]
        · refine ⟨u, ?_, hst _ _ _ _ _ _ hp ht⟩
          rw [← hu]
          exact eval_tmp (tmps_put a o.dst v d fun ed => e (dst_inj hnd hd (by rw [hdi, ed])))

theorem wpAny_slotsG {T : World → G → World → G → Prop} {J : (Nat → Bool) → World → G → Prop} (hTt : ∀ a α b β c δ, T a α b β → T b β c δ → T a α c δ) (hTr : ∀ a α, T a α a α) {ops : Array Oper} {pr : Nat → Value → World → G → Prop} (hst : ∀ i v w γ w' γ', pr i v w γ → T w γ w' γ' → pr i v w' γ')
    {a0 : Act} {w0 : World} {γ0 : G} (hok : okB ops a0.tmps.size = true) (hnd : ∀ (i : Nat) (o : Oper), ops[i]? = some o → o.dst = none → ∀ v w γ, pr i v w γ → pr i undef w γ) (hgd : ∀ (i : Nat) (o : Oper) (j : Nat) (want : Bool), ops[i]? = some o → o.guard = some (j, want) → depB o j = true) (hall : OwesAllG P Q T J ops pr a0 w0 γ0 0 ops.toList)
    (hfin : ∀ a w γ, RInvG T J ops pr a0 w0 γ0 (Array.replicate ops.size true) a w γ → Q .normal a w) :
    ∀ (fuel : Nat) (listed : Array Bool) (a : Act) (w : World) (γ : G), (listed.toList.filter (fun b => !b)).length ≤ fuel → RInvG T J ops pr a0 w0 γ0 listed a w γ → wpAny P .any ops Q fuel listed a w := by
  have hok' := hok
  simp only [okB, Bool.and_eq_true, decide_eq_true_eq] at hok'
  have hord : ∀ (i : Nat) (o : Oper) (e : Edge), ops[i]? = some o → e ∈ o.after → Region.binds .any e = true → e.on < i := by
    intro i o e ho he hb
    have h1 := List.all_eq_true.1 hok'.2 (o, i) (by
      rw [List.mem_zipIdx_iff_getElem?]
      simpa using ho)
    have h2 := List.all_eq_true.1 h1 e (by simpa using he)
    simp [hb] at h2
    exact h2
  have hnil : ∀ listed : Array Bool, listed.size = ops.size → Region.ready .any ops listed = [] → listed = Array.replicate ops.size true := by
    intro listed hs hr
    have key : ∀ i, i < ops.size → listed.getD i false = true := by
      intro i
      induction i using Nat.strongRecOn with
      | _ i ih =>
        intro hi
        cases hl : listed.getD i false with
        | true => rfl
        | false =>
          exfalso
          have hmem : i ∈ Region.ready .any ops listed := by
            unfold Region.ready
            rw [List.mem_filter]
            refine ⟨List.mem_range.2 hi, ?_⟩
            have h1 : listed.getD i true = false := by
              rw [Array.getD_eq_getD_getElem?, Array.getElem?_eq_getElem (by omega)] at hl ⊢
              exact hl
            rw [h1, Array.getElem?_eq_getElem hi]
            simp only [Bool.not_false, Bool.true_and, Option.map_some, Option.getD_some]
            rw [Array.all_eq_true_iff_forall_mem]
            intro e he
            cases hb : Region.binds .any e with
            | false => rfl
            | true =>
              have := hord i _ e (Array.getElem?_eq_getElem hi) he hb
              simp [ih e.on this (by omega)]
          rw [hr] at hmem
          cases hmem
    apply Array.ext_getElem?
    intro i
    by_cases hi : i < ops.size
    · have := key i hi
      rw [Array.getD_eq_getD_getElem?, Array.getElem?_eq_getElem (by omega)] at this
      rw [Array.getElem?_eq_getElem (by omega), Array.getElem?_replicate, if_pos hi]
      simpa using this
    · rw [Array.getElem?_eq_none (by omega), Array.getElem?_replicate, if_neg hi]
  intro fuel
  induction fuel with
  | zero =>
    intro listed a w γ hf hI
    have hr : Region.ready .any ops listed = [] := by
      rw [List.eq_nil_iff_forall_not_mem]
      intro i hi
      unfold Region.ready at hi
      rw [List.mem_filter] at hi
      have hlt : i < listed.size := by rw [hI.size]; exact List.mem_range.1 hi.1
      have h2 := hi.2
      rw [Bool.and_eq_true, Array.getD_eq_getD_getElem?, Array.getElem?_eq_getElem hlt] at h2
      have h3 : listed[i] = false := by simpa using h2.1
      have h4 : listed.toList.filter (fun b => !b) = [] := List.eq_nil_of_length_eq_zero (by omega)
      rw [List.filter_eq_nil_iff] at h4
      exact h4 listed[i] (by simp) (by simp [h3])
    refine ⟨hr, hfin a w γ ?_⟩
    rw [← hnil listed hI.size hr]
    exact hI
  | succ fuel ih =>
    intro listed a w γ hf hI
    refine ⟨fun hr => hfin a w γ (by rw [← hnil listed hI.size hr]; exact hI), fun i hi => ?_⟩
    unfold Region.ready at hi
    rw [List.mem_filter] at hi
    have hlt : i < ops.size := List.mem_range.1 hi.1
    have hltl : i < listed.size := by rw [hI.size]; exact hlt
    have h2 := hi.2
    rw [Bool.and_eq_true, Array.getD_eq_getD_getElem?, Array.getElem?_eq_getElem hltl, Array.getElem?_eq_getElem hlt] at h2
    have hfalse : listed[i] = false := by simpa using h2.1
    have hdeps : ∀ j, depB ops[i] j = true → listed.getD j false = true := by
      intro j hj
      unfold depB at hj
      rw [List.any_eq_true] at hj
      obtain ⟨e, he', hb⟩ := hj
      have he : e ∈ ops[i].after := by simpa using he'
      rw [Bool.and_eq_true, Nat.beq_eq] at hb
      have h3 := h2.2
      simp only [Option.map_some, Option.getD_some] at h3
      have h4 := Array.all_eq_true_iff_forall_mem.1 h3 e he
      rw [← hb.2]
      simpa [hb.1] using h4
    have hfree : ∀ t, freeB ops t = true → (a.tmps[t]?).getD undef = (a0.tmps[t]?).getD undef := by
      intro t ht
      refine eval_tmp (hI.free t fun j d _ hd e => ?_)
      subst e
      obtain ⟨o, ho, hod⟩ := Option.bind_eq_some_iff.1 hd
      have := List.all_eq_true.1 ht o (by simpa using Array.mem_of_getElem? ho)
      simp [hod] at this
    have hcount : ((listed.setIfInBounds i true).toList.filter (fun b => !b)).length ≤ fuel := by
      rw [Array.toList_setIfInBounds]
      have hl : listed.toList[i]? = some false := by rw [Array.getElem?_toList, Array.getElem?_eq_getElem hltl, hfalse]
      have : ∀ (l : List Bool) (i : Nat), l[i]? = some false → (l.filter (fun b => !b)).length = ((l.set i true).filter (fun b => !b)).length + 1 := by
        intro l
        induction l with
        | nil => intro i h; simp at h
        | cons b l ihl =>
          intro i h
          cases i with
          | zero =>
            simp at h
            subst h
            simp
          | succ i =>
            have := ihl i (by simpa using h)
            cases b <;> simp [this]
      have := this _ i hl
      omega
    have how := owes_getG hall i ops[i] (by rw [Array.getElem?_toList]; exact Array.getElem?_eq_getElem hlt)
    rw [Nat.zero_add] at how
    have ho : ops[i]? = some ops[i] := Array.getElem?_eq_getElem hlt
    unfold wpOp
    rw [ho]
    show if Region.wanted ops[i] (yielded ops a.tmps) = true then _ else _
    have hyield : ∀ j want, ops[i].guard = some (j, want) → (dstAt ops j).isSome = true → ∃ d v, dstAt ops j = some d ∧ pr j v w γ ∧ yielded ops a.tmps j = boolOf v := by
      intro j want hg hsome
      have hl := hdeps j (hgd i _ j want ho hg)
      have hs := hI.slot j hl
      unfold SlotG at hs
      cases hd : dstAt ops j with
      | none => rw [hd] at hsome; cases hsome
      | some d =>
        rw [hd] at hs
        obtain ⟨v, he, hp⟩ := hs
        have hdl : d < a.tmps.size := by
          rw [hI.tsize]
          obtain ⟨o', ho', hod⟩ := Option.bind_eq_some_iff.1 hd
          have := List.all_eq_true.1 hok'.1.2 d (List.mem_filterMap.2 ⟨o', by rw [← Array.getElem?_toList] at ho'; exact List.mem_of_getElem? ho', hod⟩)
          simpa using this
        exact ⟨d, v, rfl, hp, yields_of (n := 0) hd hdl he⟩
    have hdn : doneOf listed i = false := by
      unfold doneOf
      rw [Array.getD_eq_getD_getElem?, Array.getElem?_eq_getElem hltl, hfalse]
      rfl
    rcases how with ⟨hg, hstep⟩ | ⟨j, want, hg, hsome, hne, hpr, hJk⟩
    · have hw : Region.wanted ops[i] (yielded ops a.tmps) = true := by
        unfold Region.wanted
        cases hgg : ops[i].guard with
        | none => rfl
        | some p =>
          obtain ⟨j, want⟩ := p
          obtain ⟨hs, hv⟩ := hg j want hgg
          obtain ⟨d, v, _, hp, hy⟩ := hyield j want hgg hs
          have := hv v w γ hp
          subst this
          simp [hy, boolOf]
      rw [if_pos hw]
      refine Or.inl (hstep (doneOf listed) a w γ hI.world hdn (fun j hj => hdeps j hj) hI.inv hfree (fun j hj => hI.slot j (hdeps j hj)) _ ?_)
      rintro v w' ⟨γ', ht, hJ, hv⟩
      refine ih _ _ _ γ' hcount (rinv_putG (n := 0) hst hTt hok ho hI ht hJ ?_)
      cases hdd : ops[i].dst with
      | some d => exact hv
      | none => exact hnd i _ ho hdd v w' γ' hv
    · have hw : Region.wanted ops[i] (yielded ops a.tmps) = false := by
        unfold Region.wanted
        rw [hg]
        obtain ⟨d, v, _, hp, hy⟩ := hyield j want hg hsome
        have hv := hne v w γ hp
        simp only [hy]
        cases v with
        | bool b =>
          have hbw : b ≠ want := fun e => hv (by rw [e])
          simp [hbw, boolOf]
        | _ => rfl
      rw [if_neg (by rw [hw]; decide)]
      refine ih _ _ _ γ hcount (rinv_putG (n := 0) hst hTt hok ho hI (hTr _ _) (hJk _ _ _ hdn hI.inv) ?_)
      cases hdd : ops[i].dst <;> exact hpr w γ

theorem region_lastG {T : World → G → World → G → Prop} {J : (Nat → Bool) → World → G → Prop} (hTt : ∀ a α b β c δ, T a α b β → T b β c δ → T a α c δ) (hTr : ∀ a α, T a α a α) {ops : Array Oper} {pr : Nat → Value → World → G → Prop} (hst : ∀ i v w γ w' γ', pr i v w γ → T w γ w' γ' → pr i v w' γ') (hnd : ∀ (i : Nat) (o : Oper), ops[i]? = some o → o.dst = none → ∀ v w γ, pr i v w γ → pr i undef w γ)
    {a0 : Act} {w0 : World} (γ0 : G) {id : Nat} (hm : P.follows .mixedOrders = true) (hok : okB ops a0.tmps.size = true) (hgd : (ops.toList.all fun o => (match o.guard with | some (j, _) => depB o j | none => true)) = true)
    (hJ0 : J (fun _ => false) w0.drew γ0) (hall : OwesAllG P Q T J ops pr a0 w0.drew γ0 0 ops.toList)
    (hfin : ∀ (a : Act) (w : World) (γ : G), T w0.drew γ0 w γ → J (doneOf (Array.replicate ops.size true)) w γ → a.tmps.size = a0.tmps.size → a.defers = a0.defers → (∀ t, (∀ j d, dstAt ops j = some d → d ≠ t) → a.tmps[t]? = a0.tmps[t]?) → (∀ j, (dstAt ops j).isSome = true → SlotG ops pr a w γ j) → Q .normal a w) :
    (Code.region id ops true).wp P Q a0 w0 := by
  refine wp_region_any hm ?_
  show wpAny P .any ops Q ops.size (Array.replicate ops.size false) a0 w0.drew
  refine wpAny_slotsG hTt hTr hst hok hnd (fun i o j want ho hg => ?_) hall ?_ _ _ _ _ γ0 ?_ ?_
  · have := List.all_eq_true.1 hgd o (by simpa using Array.mem_of_getElem? ho)
    rwa [hg] at this
  · intro a w γ hI
    refine hfin a w γ hI.world hI.inv hI.tsize hI.defers (fun t ht => hI.free t fun j d _ hd => ht j d hd) fun j hj => hI.slot j ?_
    have hlt : j < ops.size := by
      cases hd : dstAt ops j with
      | none => rw [hd] at hj; cases hj
      | some d =>
        obtain ⟨o', ho', hod⟩ := Option.bind_eq_some_iff.1 hd
        exact (Array.getElem?_eq_some_iff.1 ho').1
    simp [Array.getD_eq_getD_getElem?, Array.getElem?_replicate, hlt]
  · simp
  · refine ⟨by simp, rfl, rfl, hTr _ _, (by
      have : doneOf (Array.replicate ops.size false) = fun _ => false := by
        funext j
        unfold doneOf
        rw [Array.getD_eq_getD_getElem?, Array.getElem?_replicate]
        split <;> rfl
      rw [this]; exact hJ0), fun _ _ => rfl, fun j hj => ?_⟩
    rw [Array.getD_eq_getD_getElem?, Array.getElem?_replicate] at hj
    split at hj <;> simp at hj


/-- The same, with the slots laid one by one behind the region; what is shown of the slots at the end is all that goes on. -/
theorem region_toG {T : World → G → World → G → Prop} {J : (Nat → Bool) → World → G → Prop} (hTt : ∀ a α b β c δ, T a α b β → T b β c δ → T a α c δ) (hTr : ∀ a α, T a α a α) {ops : Array Oper} {a0 : Act} {w0 : World} (γ0 : G) {id : Nat} (Φ : (Nat → Value) → World → G → Prop)
    (hm : P.follows .mixedOrders = true) (hok : okB ops a0.tmps.size = true) (hgd : (ops.toList.all fun o => (match o.guard with | some (j, _) => depB o j | none => true)) = true)
    (hJ0 : J (fun _ => false) w0.drew γ0)
    (hall : ∃ pr : Nat → Value → World → G → Prop, (∀ i v w γ w' γ', pr i v w γ → T w γ w' γ' → pr i v w' γ') ∧ (∀ (i : Nat) (o : Oper), ops[i]? = some o → o.dst = none → ∀ v w γ, pr i v w γ → pr i undef w γ) ∧ OwesAllG P Q T J ops pr a0 w0.drew γ0 0 ops.toList ∧
      ∀ vs w γ, T w0.drew γ0 w γ → J (doneOf (Array.replicate ops.size true)) w γ → (∀ j, (dstAt ops j).isSome = true → pr j (vs j) w γ) → Φ vs w γ)
    (hfin : ∀ (vs : Nat → Value) (w : World) (γ : G), T w0.drew γ0 w γ → Φ vs w γ → wpList P #[] Q (laid vs 0 ops.toList) a0 w) :
    (Code.region id ops true).wp P Q a0 w0 := by
  obtain ⟨pr, hst, hnd, hown, hΦ⟩ := hall
  have hok' := hok
  simp only [okB, Bool.and_eq_true, decide_eq_true_eq] at hok'
  have hlt' : ∀ j d, dstAt ops j = some d → j < ops.size ∧ d < a0.tmps.size := fun j d hd => by
    obtain ⟨o', ho', hod⟩ := Option.bind_eq_some_iff.1 hd
    refine ⟨(Array.getElem?_eq_some_iff.1 ho').1, ?_⟩
    have := List.all_eq_true.1 hok'.1.2 d (List.mem_filterMap.2 ⟨o', by rw [← Array.getElem?_toList] at ho'; exact List.mem_of_getElem? ho', hod⟩)
    simpa using this
  refine region_lastG hTt hTr hst hnd γ0 hm hok hgd hJ0 hown fun a w γ hT hJ hsz hdf hfr hsl => ?_
  have hsl' : ∀ j d, dstAt ops j = some d → pr j (a.eval (.tmp d)) w γ := fun j d hd => by
    have hs := hsl j (by rw [hd]; rfl)
    unfold SlotG at hs
    rw [hd] at hs
    obtain ⟨v, hv, hp⟩ := hs
    rwa [eval_slot, hv]
  have hgo := laid_put _ _ _ _ _ _ (hfin (fun j => match dstAt ops j with | some d => a.eval (.tmp d) | none => undef) w γ hT (hΦ _ w γ hT hJ fun j hj => by
    cases hd : dstAt ops j with
    | none => rw [hd] at hj; cases hj
    | some d => exact hsl' j d hd))
  have e : putAll (fun j => match dstAt ops j with | some d => a.eval (.tmp d) | none => undef) 0 ops.toList a0 = a := by
    obtain ⟨tm, df⟩ := a
    have e1 : ∀ t : Nat, (putAll (fun j => match dstAt ops j with | some d => Act.eval ⟨tm, df⟩ (.tmp d) | none => undef) 0 ops.toList a0).tmps[t]? = tm[t]? := by
      intro t
      by_cases ht : ∃ j, dstAt ops j = some t
      · obtain ⟨j, hj⟩ := ht
        obtain ⟨o', ho', hod⟩ := Option.bind_eq_some_iff.1 hj
        rw [putAll_at ops.toList 0 a0 j o' t hok'.1.1 (by rw [Array.getElem?_toList]; exact ho') hod (hlt' j t hj).2, Nat.zero_add]
        simp only [hj]
        have htl : t < tm.size := by
          simp only at hsz
          rw [hsz]
          exact (hlt' j t hj).2
        simp [Act.eval, Array.getD_eq_getD_getElem?, Array.getElem?_eq_getElem htl]
      · rw [putAll_other]
        · have := hfr t (fun j d hd e => ht ⟨j, by rw [hd, e]⟩)
          exact this.symm
        · intro o ho e
          obtain ⟨j, hj⟩ := List.getElem?_of_mem ho
          exact ht ⟨j, by rw [Array.getElem?_toList] at hj; simp [dstAt, hj, e]⟩
    have e2 := putAll_defers (vs := fun j => match dstAt ops j with | some d => Act.eval ⟨tm, df⟩ (.tmp d) | none => undef) ops.toList 0 a0
    simp only at hdf
    generalize putAll (fun j => match dstAt ops j with | some d => Act.eval ⟨tm, df⟩ (.tmp d) | none => undef) 0 ops.toList a0 = b at e1 e2
    obtain ⟨bt, bd⟩ := b
    simp only at e1 e2
    rw [Array.ext_getElem? e1, e2, hdf]
  rwa [e] at hgo

theorem owes_plainG {T : World → G → World → G → Prop} {J : (Nat → Bool) → World → G → Prop} {ops : Array Oper} {pr : Nat → Value → World → G → Prop} {a0 : Act} {w0 : World} {γ0 : G} {i : Nat} {o : Oper} (hg : o.guard = none)
    (h : ∀ dn a w γ, T w0 γ0 w γ → dn i = false → (∀ j, depB o j = true → dn j = true) → J dn w γ → (∀ t, freeB ops t = true → (a.tmps[t]?).getD undef = (a0.tmps[t]?).getD undef) → (∀ j, depB o j = true → SlotG ops pr a w γ j) → StepOp P Q o a w fun v w' => ∃ γ', T w γ w' γ' ∧ J (did dn i) w' γ' ∧ pr i v w' γ') : OwesG P Q T J ops pr a0 w0 γ0 i o :=
  Or.inl ⟨(fun j want hh => by rw [hg] at hh; cases hh), h⟩
theorem owes_ifG {T : World → G → World → G → Prop} {J : (Nat → Bool) → World → G → Prop} {ops : Array Oper} {pr : Nat → Value → World → G → Prop} {a0 : Act} {w0 : World} {γ0 : G} {i : Nat} {o : Oper} {j : Nat} {want : Bool} (hg : o.guard = some (j, want)) (hd : (dstAt ops j).isSome = true) (hp : ∀ v w γ, pr j v w γ → v = .bool want)
    (h : ∀ dn a w γ, T w0 γ0 w γ → dn i = false → (∀ j, depB o j = true → dn j = true) → J dn w γ → (∀ t, freeB ops t = true → (a.tmps[t]?).getD undef = (a0.tmps[t]?).getD undef) → (∀ j, depB o j = true → SlotG ops pr a w γ j) → StepOp P Q o a w fun v w' => ∃ γ', T w γ w' γ' ∧ J (did dn i) w' γ' ∧ pr i v w' γ') : OwesG P Q T J ops pr a0 w0 γ0 i o :=
  Or.inl ⟨fun j' want' hh => by
    rw [hg] at hh
    injection hh with hh
    injection hh with h1 h2
    subst h1; subst h2
    exact ⟨hd, hp⟩, h⟩
/-- What a slot is said to hold, of world and ghost. -/
structure PrG (T : World → G → World → G → Prop) where
  p : Value → World → G → Prop
  st : ∀ v w γ w' γ', p v w γ → T w γ w' γ' → p v w' γ'
def prOfG {T : World → G → World → G → Prop} (prs : List (PrG T)) (i : Nat) : Value → World → G → Prop :=
  match prs[i]? with
  | some q => q.p
  | none => fun _ _ _ => True
theorem prOfG_st {T : World → G → World → G → Prop} (prs : List (PrG T)) : ∀ i v w γ w' γ', prOfG prs i v w γ → T w γ w' γ' → prOfG prs i v w' γ' := by
  intro i v w γ w' γ' h ht
  unfold prOfG at *
  cases hq : prs[i]? with
  | none => trivial
  | some q => rw [hq] at h; exact q.st _ _ _ _ _ h ht
def PrG.is {T : World → G → World → G → Prop} (x : Value) : PrG T := ⟨fun v _ _ => v = x, fun _ _ _ _ _ h _ => h⟩
def PrG.any {T : World → G → World → G → Prop} : PrG T := ⟨fun _ _ _ => True, fun _ _ _ _ _ h _ => h⟩
theorem no_none {ops : Array Oper} {pr : Nat → Value → World → G → Prop} (h : (ops.toList.all fun o => o.dst.isSome) = true) : ∀ (i : Nat) (o : Oper), ops[i]? = some o → o.dst = none → ∀ v w γ, pr i v w γ → pr i undef w γ := by
  intro i o ho hn
  have := List.all_eq_true.1 h o (by simpa using Array.mem_of_getElem? ho)
  simp [hn] at this
theorem none_at {ops : Array Oper} {pr : Nat → Value → World → G → Prop} (K : Nat) (h : (ops.toList.zipIdx.all fun p => p.1.dst.isSome || Nat.beq p.2 K) = true) (hp : ∀ v w γ, pr K v w γ → pr K undef w γ) : ∀ (i : Nat) (o : Oper), ops[i]? = some o → o.dst = none → ∀ v w γ, pr i v w γ → pr i undef w γ := by
  intro i o ho hn
  have := List.all_eq_true.1 h (o, i) (by rw [List.mem_zipIdx_iff_getElem?]; simpa using ho)
  simp [hn] at this
  subst this
  exact hp
/-- Nothing is asked of how the world turns: the invariant says it all. -/
def anyT (w : World) (γ : G) (w' : World) (γ' : G) : Prop := True
theorem anyT_refl (w : World) (γ : G) : anyT w γ w γ := trivial
theorem anyT_trans (a : World) (α : G) (b : World) (β : G) (c : World) (δ : G) (_ : anyT a α b β) (_ : anyT b β c δ) : anyT a α c δ := trivial
end
end Go.Proofs.YtbhaekdfpfncnaaDoor
