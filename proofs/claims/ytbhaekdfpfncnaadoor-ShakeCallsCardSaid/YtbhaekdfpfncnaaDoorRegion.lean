/- A law for a statement whose operations Go may carry out in more than one order: what each operation's slot holds is said once, for whatever order, by a property that later operations do not turn. -/
import Derived.WalkKit
import Derived.RegionTactic
namespace Go.Proofs.YtbhaekdfpfncnaaDoor
set_option linter.unusedVariables false
set_option linter.unusedSimpArgs false
open Go.RowKit

section
variable {P : Program} {Q : Exit → Act → World → Prop}

/-- One operation at (a, w), whatever stands behind it. -/
def StepOp (P : Program) (Q : Exit → Act → World → Prop) (o : Oper) (a : Act) (w : World) (Φ : Value → World → Prop) : Prop :=
  ∀ K : Act → World → Prop, (∀ v w', Φ v w' → K (a.put o.dst v) w') → o.wp P a w K Q
theorem step_val {o : Oper} {a : Act} {w w' : World} {Φ : Value → World → Prop} {v : Value} (h : (execOp a.eval o).run P w = .ok (.value v) w') (hΦ : Φ v w') : StepOp P Q o a w Φ := fun K hK => by
  unfold Oper.wp
  rw [h]
  exact hK _ _ hΦ
theorem step_skip {o : Oper} {a : Act} {w w' : World} {Φ : Value → World → Prop} (h : (execOp a.eval o).run P w = .ok .skip w') (hΦ : Φ undef w') : StepOp P Q o a w Φ := fun K hK => by
  unfold Oper.wp
  rw [h]
  exact hK _ _ hΦ
theorem step_call {o : Oper} {a : Act} {w w' : World} {Φ : Value → World → Prop} {f : FuncId} {args : Array Value} (h : (execOp a.eval o).run P w = .ok (.enter f args) w')
    (hc : Calls P f args w' fun e w'' => ∃ v, e = .returned v ∧ Φ v w'') : StepOp P Q o a w Φ := fun K hK => by
  unfold Oper.wp
  rw [h]
  simp only [Oper.upon]
  refine hc.mono ?_
  rintro e w'' ⟨v, rfl, hv⟩
  exact hK _ _ hv

def depB (o : Oper) (j : Nat) : Bool := o.after.toList.any fun e => Region.binds .any e && Nat.beq e.on j
def dstAt (ops : Array Oper) (j : Nat) : Option Tmp := (ops[j]?).bind (·.dst)
def freeB (ops : Array Oper) (t : Tmp) : Bool := ops.toList.all fun o => match o.dst with | some d => !Nat.beq d t | none => true
def okB (ops : Array Oper) (n : Nat) : Bool :=
  decide (ops.toList.filterMap (·.dst)).Nodup && (ops.toList.filterMap (·.dst)).all (fun d => decide (d < n)) && ops.toList.zipIdx.all fun (o, i) => o.after.toList.all fun e => !Region.binds .any e || decide (e.on < i)
/-- What slot j holds. -/
def SlotIs (ops : Array Oper) (pr : Nat → Value → World → Prop) (a : Act) (w : World) (j : Nat) : Prop :=
  match dstAt ops j with
  | some d => ∃ v, (a.tmps[d]?).getD undef = v ∧ pr j v w
  | none => True
/-- One operation's debt: it is run, its guard met, and lays what its slot is said to hold; or its guard is not met, and the slot is said to hold nothing. -/
def Owes (P : Program) (Q : Exit → Act → World → Prop) (T : World → World → Prop) (ops : Array Oper) (pr : Nat → Value → World → Prop) (a0 : Act) (w0 : World) (i : Nat) (o : Oper) : Prop :=
  ((∀ j want, o.guard = some (j, want) → (dstAt ops j).isSome = true ∧ ∀ v w, pr j v w → v = .bool want) ∧
    ∀ a w, T w0 w → (∀ t, freeB ops t = true → (a.tmps[t]?).getD undef = (a0.tmps[t]?).getD undef) → (∀ j, depB o j = true → SlotIs ops pr a w j) → StepOp P Q o a w fun v w' => T w w' ∧ pr i v w') ∨
  (∃ j want, o.guard = some (j, want) ∧ (dstAt ops j).isSome = true ∧ (∀ v w, pr j v w → v ≠ .bool want) ∧ ∀ w, pr i undef w)
def OwesAll (P : Program) (Q : Exit → Act → World → Prop) (T : World → World → Prop) (ops : Array Oper) (pr : Nat → Value → World → Prop) (a0 : Act) (w0 : World) : Nat → List Oper → Prop
  | _, [] => True
  | i, o :: rest => Owes P Q T ops pr a0 w0 i o ∧ OwesAll P Q T ops pr a0 w0 (i + 1) rest
def putAll (vs : Nat → Value) : Nat → List Oper → Act → Act
  | _, [], a => a
  | i, o :: rest, a => putAll vs (i + 1) rest (a.put o.dst (vs i))

theorem owes_get {T : World → World → Prop} {ops : Array Oper} {pr : Nat → Value → World → Prop} {a0 : Act} {w0 : World} : ∀ {l : List Oper} {k : Nat}, OwesAll P Q T ops pr a0 w0 k l → ∀ i o, l[i]? = some o → Owes P Q T ops pr a0 w0 (k + i) o
  | [], _, _, i, o, h => by simp at h
  | x :: l, k, h, 0, o, ho => by
    simp at ho
    subst ho
    exact h.1
  | x :: l, k, h, i + 1, o, ho => by
    have := owes_get h.2 i o (by simpa using ho)
    rwa [show k + 1 + i = k + (i + 1) from by omega] at this

structure RInv (T : World → World → Prop) (ops : Array Oper) (pr : Nat → Value → World → Prop) (a0 : Act) (w0 : World) (listed : Array Bool) (a : Act) (w : World) : Prop where
  size : listed.size = ops.size
  tsize : a.tmps.size = a0.tmps.size
  defers : a.defers = a0.defers
  world : T w0 w
  free : ∀ t, (∀ j d, listed.getD j false = true → dstAt ops j = some d → d ≠ t) → a.tmps[t]? = a0.tmps[t]?
  slot : ∀ j, listed.getD j false = true → SlotIs ops pr a w j

theorem eval_tmp {a b : Act} {t : Tmp} (h : a.tmps[t]? = b.tmps[t]?) : (a.tmps[t]?).getD undef = (b.tmps[t]?).getD undef := by rw [h]
theorem eval_slot (a : Act) (t : Tmp) : a.eval (.tmp t) = (a.tmps[t]?).getD undef := by simp [Act.eval, Array.getD_eq_getD_getElem?]

theorem tmps_put (a : Act) (o : Option Tmp) (v : Value) (t : Tmp) (h : o ≠ some t) : (a.put o v).tmps[t]? = a.tmps[t]? := by
  cases o with
  | none => rfl
  | some d =>
    have hne : d ≠ t := fun e => h (by rw [e])
    simp [Act.put, Array.getElem?_setIfInBounds_ne hne]

theorem dst_inj {ops : Array Oper} (hn : (ops.toList.filterMap (·.dst)).Nodup) {i j : Nat} {d : Tmp} (hi : dstAt ops i = some d) (hj : dstAt ops j = some d) : i = j := by
  unfold dstAt at hi hj
  rw [← Array.getElem?_toList] at hi hj
  generalize ops.toList = l at *
  clear ops
  induction l generalizing i j with
  | nil => simp at hi
  | cons x l ih =>
    have hmem : ∀ {k : Nat} {d : Tmp}, ((l[k]?).bind (·.dst)) = some d → d ∈ l.filterMap (·.dst) := by
      intro k d h
      obtain ⟨o, ho, hd⟩ := Option.bind_eq_some_iff.1 h
      exact List.mem_filterMap.2 ⟨o, List.mem_of_getElem? ho, hd⟩
    cases hx : x.dst with
    | none =>
      rw [List.filterMap_cons_none hx] at hn
      cases i with
      | zero => simp [hx] at hi
      | succ i => cases j with
        | zero => simp [hx] at hj
        | succ j => exact congrArg (· + 1) (ih (i := i) (j := j) hn (by simpa using hi) (by simpa using hj))
    | some e =>
      rw [List.filterMap_cons_some hx, List.nodup_cons] at hn
      cases i with
      | zero => cases j with
        | zero => rfl
        | succ j =>
          simp [hx] at hi
          subst hi
          exact absurd (hmem (by simpa using hj)) hn.1
      | succ i => cases j with
        | zero =>
          simp [hx] at hj
          subst hj
          exact absurd (hmem (by simpa using hi)) hn.1
        | succ j => exact congrArg (· + 1) (ih (i := i) (j := j) hn.2 (by simpa using hi) (by simpa using hj))

theorem rinv_put {T : World → World → Prop} {ops : Array Oper} {pr : Nat → Value → World → Prop} {a0 : Act} {w0 w w' : World} {listed : Array Bool} {a : Act} {i : Nat} {o : Oper} {v : Value} {n : Nat}
    (hst : ∀ i v w w', pr i v w → T w w' → pr i v w') (hTt : ∀ a b c, T a b → T b c → T a c) (hok : okB ops a0.tmps.size = true) (ho : ops[i]? = some o)
    (h : RInv T ops pr a0 w0 listed a w) (ht : T w w') (hv : pr i v w') : RInv T ops pr a0 w0 (listed.setIfInBounds i true) (a.put o.dst v) w' := by
  simp only [okB, Bool.and_eq_true, decide_eq_true_eq] at hok
  have hnd := hok.1.1
  have hlt : i < ops.size := (Array.getElem?_eq_some_iff.1 ho).1
  have hdi : dstAt ops i = o.dst := by simp [dstAt, ho]
  have hgl : ∀ j, (listed.setIfInBounds i true).getD j false = true → j = i ∨ listed.getD j false = true := by
    intro j hj
    by_cases e : j = i
    · exact Or.inl e
    · refine Or.inr ?_
      rw [Array.getD_eq_getD_getElem?, Array.getElem?_setIfInBounds_ne (Ne.symm e)] at hj
      rw [Array.getD_eq_getD_getElem?]
      exact hj
  have hgi : (listed.setIfInBounds i true).getD i false = true := by
    rw [Array.getD_eq_getD_getElem?, Array.getElem?_setIfInBounds_self_of_lt (by rw [h.size]; exact hlt)]
    rfl
  refine ⟨by simpa using h.size, ?_, ?_, hTt _ _ _ h.world ht, ?_, ?_⟩
  · rw [← h.tsize]
    cases o.dst <;> simp [Act.put]
  · rw [← h.defers]
    cases o.dst <;> rfl
  · intro t hfree
    rw [tmps_put a o.dst v t (fun e => hfree i t hgi (by rw [hdi, e]) rfl)]
    refine h.free t fun j d hj hd => hfree j d ?_ hd
    by_cases e : j = i
    · subst e; exact hgi
    · rw [Array.getD_eq_getD_getElem?, Array.getElem?_setIfInBounds_ne (Ne.symm e), ← Array.getD_eq_getD_getElem?]
      exact hj
  · intro j hj
    unfold SlotIs
    rcases hgl j hj with rfl | hl
    · rw [hdi]
      cases hd : o.dst with
      | none => trivial
      | some d =>
        refine ⟨v, ?_, hv⟩
        have hdn : d < a0.tmps.size := by
          have := List.all_eq_true.1 hok.1.2 d (List.mem_filterMap.2 ⟨o, by rw [← Array.getElem?_toList] at ho; exact List.mem_of_getElem? ho, hd⟩)
          simpa using this
        simp [Act.eval, Act.put, Array.getD_eq_getD_getElem?, Array.getElem?_setIfInBounds_self_of_lt (show d < a.tmps.size by rw [h.tsize]; exact hdn)]
    · have hs := h.slot j hl
      unfold SlotIs at hs
      cases hd : dstAt ops j with
      | none => trivial
      | some d =>
        rw [hd] at hs
        obtain ⟨u, hu, hp⟩ := hs
        by_cases e : j = i
        · subst e
          refine ⟨v, ?_, hv⟩
          rw [hdi] at hd
          rw [hd]
          have hdn : d < a0.tmps.size := by
            have := List.all_eq_true.1 hok.1.2 d (List.mem_filterMap.2 ⟨o, by rw [← Array.getElem?_toList] at ho; exact List.mem_of_getElem? ho, hd⟩)
            simpa using this
          simp [Act.eval, Act.put, Array.getD_eq_getD_getElem?, Array.getElem?_setIfInBounds_self_of_lt (show d < a.tmps.size by rw [h.tsize]; exact hdn)]
        · refine ⟨u, ?_, hst _ _ _ _ hp ht⟩
          rw [← hu]
          exact eval_tmp (tmps_put a o.dst v d fun ed => e (dst_inj hnd hd (by rw [hdi, ed])))

def boolOf : Value → Option Bool
  | .bool b => some b
  | _ => none
theorem yields_of {ops : Array Oper} {a : Act} {j : Nat} {d : Tmp} {v : Value} {n : Nat} (hd : dstAt ops j = some d) (hlt : d < a.tmps.size) (he : (a.tmps[d]?).getD undef = v) : yielded ops a.tmps j = boolOf v := by
  have hv : a.tmps[d]? = some v := by
    rw [← he]
    simp [Array.getElem?_eq_getElem hlt]
  unfold dstAt at hd
  simp only [yielded, hd, Option.bind_some, hv]
  cases v <;> rfl

theorem wpAny_slots {T : World → World → Prop} (hTt : ∀ a b c, T a b → T b c → T a c) (hTr : ∀ a, T a a) {ops : Array Oper} {pr : Nat → Value → World → Prop} (hst : ∀ i v w w', pr i v w → T w w' → pr i v w')
    {a0 : Act} {w0 : World} (hok : okB ops a0.tmps.size = true) (hgd : ∀ (i : Nat) (o : Oper) (j : Nat) (want : Bool), ops[i]? = some o → o.guard = some (j, want) → depB o j = true) (hall : OwesAll P Q T ops pr a0 w0 0 ops.toList)
    (hfin : ∀ a w, RInv T ops pr a0 w0 (Array.replicate ops.size true) a w → Q .normal a w) :
    ∀ (fuel : Nat) (listed : Array Bool) (a : Act) (w : World), (listed.toList.filter (fun b => !b)).length ≤ fuel → RInv T ops pr a0 w0 listed a w → wpAny P .any ops Q fuel listed a w := by
  have hok' := hok
  simp only [okB, Bool.and_eq_true, decide_eq_true_eq] at hok'
  have hord : ∀ (i : Nat) (o : Oper) (e : Edge), ops[i]? = some o → e ∈ o.after → Region.binds .any e = true → e.on < i := by
    intro i o e ho he hb
    have h1 := List.all_eq_true.1 hok'.2 (o, i) (by
      rw [List.mem_zipIdx_iff_getElem?]
      simpa using ho)
    have h2 := List.all_eq_true.1 h1 e (by simpa using he)
    simp [hb] at h2
    exact h2
  have hnil : ∀ listed : Array Bool, listed.size = ops.size → Region.ready .any ops listed = [] → listed = Array.replicate ops.size true := by
    intro listed hs hr
    have key : ∀ i, i < ops.size → listed.getD i false = true := by
      intro i
      induction i using Nat.strongRecOn with
      | _ i ih =>
        intro hi
        cases hl : listed.getD i false with
        | true => rfl
        | false =>
          exfalso
          have hmem : i ∈ Region.ready .any ops listed := by
            unfold Region.ready
            rw [List.mem_filter]
            refine ⟨List.mem_range.2 hi, ?_⟩
            have h1 : listed.getD i true = false := by
              rw [Array.getD_eq_getD_getElem?, Array.getElem?_eq_getElem (by omega)] at hl ⊢
              exact hl
            rw [h1, Array.getElem?_eq_getElem hi]
            simp only [Bool.not_false, Bool.true_and, Option.map_some, Option.getD_some]
            rw [Array.all_eq_true_iff_forall_mem]
            intro e he
            cases hb : Region.binds .any e with
            | false => rfl
            | true =>
              have := hord i _ e (Array.getElem?_eq_getElem hi) he hb
              simp [ih e.on this (by omega)]
          rw [hr] at hmem
          cases hmem
    apply Array.ext_getElem?
    intro i
    by_cases hi : i < ops.size
    · have := key i hi
      rw [Array.getD_eq_getD_getElem?, Array.getElem?_eq_getElem (by omega)] at this
      rw [Array.getElem?_eq_getElem (by omega), Array.getElem?_replicate, if_pos hi]
      simpa using this
    · rw [Array.getElem?_eq_none (by omega), Array.getElem?_replicate, if_neg hi]
  intro fuel
  induction fuel with
  | zero =>
    intro listed a w hf hI
    have hr : Region.ready .any ops listed = [] := by
      rw [List.eq_nil_iff_forall_not_mem]
      intro i hi
      unfold Region.ready at hi
      rw [List.mem_filter] at hi
      have hlt : i < listed.size := by rw [hI.size]; exact List.mem_range.1 hi.1
      have h2 := hi.2
      rw [Bool.and_eq_true, Array.getD_eq_getD_getElem?, Array.getElem?_eq_getElem hlt] at h2
      have h3 : listed[i] = false := by simpa using h2.1
      have h4 : listed.toList.filter (fun b => !b) = [] := List.eq_nil_of_length_eq_zero (by omega)
      rw [List.filter_eq_nil_iff] at h4
      exact h4 listed[i] (by simp) (by simp [h3])
    refine ⟨hr, hfin a w ?_⟩
    rw [← hnil listed hI.size hr]
    exact hI
  | succ fuel ih =>
    intro listed a w hf hI
    refine ⟨fun hr => hfin a w (by rw [← hnil listed hI.size hr]; exact hI), fun i hi => ?_⟩
    unfold Region.ready at hi
    rw [List.mem_filter] at hi
    have hlt : i < ops.size := List.mem_range.1 hi.1
    have hltl : i < listed.size := by rw [hI.size]; exact hlt
    have h2 := hi.2
    rw [Bool.and_eq_true, Array.getD_eq_getD_getElem?, Array.getElem?_eq_getElem hltl, Array.getElem?_eq_getElem hlt] at h2
    have hfalse : listed[i] = false := by simpa using h2.1
    have hdeps : ∀ j, depB ops[i] j = true → listed.getD j false = true := by
      intro j hj
      unfold depB at hj
      rw [List.any_eq_true] at hj
      obtain ⟨e, he', hb⟩ := hj
      have he : e ∈ ops[i].after := by simpa using he'
      rw [Bool.and_eq_true, Nat.beq_eq] at hb
      have h3 := h2.2
      simp only [Option.map_some, Option.getD_some] at h3
      have h4 := Array.all_eq_true_iff_forall_mem.1 h3 e he
      rw [← hb.2]
      simpa [hb.1] using h4
    have hfree : ∀ t, freeB ops t = true → (a.tmps[t]?).getD undef = (a0.tmps[t]?).getD undef := by
      intro t ht
      refine eval_tmp (hI.free t fun j d _ hd e => ?_)
      subst e
      obtain ⟨o, ho, hod⟩ := Option.bind_eq_some_iff.1 hd
      have := List.all_eq_true.1 ht o (by simpa using Array.mem_of_getElem? ho)
      simp [hod] at this
    have hcount : ((listed.setIfInBounds i true).toList.filter (fun b => !b)).length ≤ fuel := by
      rw [Array.toList_setIfInBounds]
      have hl : listed.toList[i]? = some false := by rw [Array.getElem?_toList, Array.getElem?_eq_getElem hltl, hfalse]
      have : ∀ (l : List Bool) (i : Nat), l[i]? = some false → (l.filter (fun b => !b)).length = ((l.set i true).filter (fun b => !b)).length + 1 := by
        intro l
        induction l with
        | nil => intro i h; simp at h
        | cons b l ihl =>
          intro i h
          cases i with
          | zero =>
            simp at h
            subst h
            simp
          | succ i =>
            have := ihl i (by simpa using h)
            cases b <;> simp [this]
      have := this _ i hl
      omega
    have how := owes_get hall i ops[i] (by rw [Array.getElem?_toList]; exact Array.getElem?_eq_getElem hlt)
    rw [Nat.zero_add] at how
    have ho : ops[i]? = some ops[i] := Array.getElem?_eq_getElem hlt
    unfold wpOp
    rw [ho]
    show if Region.wanted ops[i] (yielded ops a.tmps) = true then _ else _
    have hyield : ∀ j want, ops[i].guard = some (j, want) → (dstAt ops j).isSome = true → ∃ d v, dstAt ops j = some d ∧ pr j v w ∧ yielded ops a.tmps j = boolOf v := by
      intro j want hg hsome
      have hl := hdeps j (hgd i _ j want ho hg)
      have hs := hI.slot j hl
      unfold SlotIs at hs
      cases hd : dstAt ops j with
      | none => rw [hd] at hsome; cases hsome
      | some d =>
        rw [hd] at hs
        obtain ⟨v, he, hp⟩ := hs
        have hdl : d < a.tmps.size := by
          rw [hI.tsize]
          obtain ⟨o', ho', hod⟩ := Option.bind_eq_some_iff.1 hd
          have := List.all_eq_true.1 hok'.1.2 d (List.mem_filterMap.2 ⟨o', by rw [← Array.getElem?_toList] at ho'; exact List.mem_of_getElem? ho', hod⟩)
          simpa using this
        exact ⟨d, v, rfl, hp, yields_of (n := 0) hd hdl he⟩
    rcases how with ⟨hg, hstep⟩ | ⟨j, want, hg, hsome, hne, hpr⟩
    · have hw : Region.wanted ops[i] (yielded ops a.tmps) = true := by
        unfold Region.wanted
        cases hgg : ops[i].guard with
        | none => rfl
        | some p =>
          obtain ⟨j, want⟩ := p
          obtain ⟨hs, hv⟩ := hg j want hgg
          obtain ⟨d, v, _, hp, hy⟩ := hyield j want hgg hs
          have := hv v w hp
          subst this
          simp [hy, boolOf]
      rw [if_pos hw]
      refine Or.inl (hstep a w hI.world hfree (fun j hj => hI.slot j (hdeps j hj)) _ ?_)
      rintro v w' ⟨ht, hv⟩
      exact ih _ _ _ hcount (rinv_put (n := 0) hst hTt hok ho hI ht hv)
    · have hw : Region.wanted ops[i] (yielded ops a.tmps) = false := by
        unfold Region.wanted
        rw [hg]
        obtain ⟨d, v, _, hp, hy⟩ := hyield j want hg hsome
        have hv := hne v w hp
        simp only [hy]
        cases v with
        | bool b =>
          have hbw : b ≠ want := fun e => hv (by rw [e])
          simp [hbw, boolOf]
        | _ => rfl
      rw [if_neg (by rw [hw]; decide)]
      exact ih _ _ _ hcount (rinv_put (n := 0) hst hTt hok ho hI (hTr _) (hpr w))

theorem putAll_tsize {vs : Nat → Value} : ∀ (l : List Oper) (k : Nat) (a : Act), (putAll vs k l a).tmps.size = a.tmps.size
  | [], _, _ => rfl
  | o :: l, k, a => by
    rw [putAll, putAll_tsize l]
    cases o.dst <;> simp [Act.put]
theorem putAll_defers {vs : Nat → Value} : ∀ (l : List Oper) (k : Nat) (a : Act), (putAll vs k l a).defers = a.defers
  | [], _, _ => rfl
  | o :: l, k, a => by
    rw [putAll, putAll_defers l]
    cases o.dst <;> rfl
theorem putAll_other {vs : Nat → Value} : ∀ (l : List Oper) (k : Nat) (a : Act) (t : Tmp), (∀ o ∈ l, o.dst ≠ some t) → (putAll vs k l a).tmps[t]? = a.tmps[t]?
  | [], _, _, _, _ => rfl
  | o :: l, k, a, t, h => by
    rw [putAll, putAll_other l _ _ t (fun o ho => h o (List.mem_cons_of_mem _ ho)), tmps_put _ _ _ _ (h o (List.mem_cons_self ..))]
theorem putAll_at {vs : Nat → Value} : ∀ (l : List Oper) (k : Nat) (a : Act) (i : Nat) (o : Oper) (d : Tmp), (l.filterMap (·.dst)).Nodup → l[i]? = some o → o.dst = some d → d < a.tmps.size → (putAll vs k l a).tmps[d]? = some (vs (k + i))
  | [], _, _, i, o, d, _, h, _, _ => by simp at h
  | x :: l, k, a, 0, o, d, hn, h, hd, hlt => by
    simp at h
    subst h
    rw [List.filterMap_cons_some hd, List.nodup_cons] at hn
    rw [putAll, putAll_other l _ _ d (fun o' ho' e => hn.1 (List.mem_filterMap.2 ⟨o', ho', e⟩)), hd]
    simp [Act.put, Array.getElem?_setIfInBounds_self_of_lt hlt]
  | x :: l, k, a, i + 1, o, d, hn, h, hd, hlt => by
    have hn' : (l.filterMap (·.dst)).Nodup := by
      cases hx : x.dst with
      | none => rwa [List.filterMap_cons_none hx] at hn
      | some e => rw [List.filterMap_cons_some hx, List.nodup_cons] at hn; exact hn.2
    rw [putAll, putAll_at l (k + 1) _ i o d hn' (by simpa using h) hd (by cases x.dst <;> simpa [Act.put] using hlt), show k + 1 + i = k + (i + 1) from by omega]

/-- The same, said of the frame behind it as a whole. -/
theorem region_last {T : World → World → Prop} (hTt : ∀ a b c, T a b → T b c → T a c) (hTr : ∀ a, T a a) {ops : Array Oper} {pr : Nat → Value → World → Prop} (hst : ∀ i v w w', pr i v w → T w w' → pr i v w')
    {a0 : Act} {w0 : World} {id : Nat} (hm : P.follows .mixedOrders = true) (hok : okB ops a0.tmps.size = true) (hgd : (ops.toList.all fun o => (match o.guard with | some (j, _) => depB o j | none => true)) = true)
    (hall : OwesAll P Q T ops pr a0 w0.drew 0 ops.toList)
    (hfin : ∀ (a : Act) (w : World), T w0.drew w → a.tmps.size = a0.tmps.size → a.defers = a0.defers → (∀ t, (∀ j d, dstAt ops j = some d → d ≠ t) → a.tmps[t]? = a0.tmps[t]?) → (∀ j, (dstAt ops j).isSome = true → SlotIs ops pr a w j) → Q .normal a w) :
    (Code.region id ops true).wp P Q a0 w0 := by
  refine wp_region_any hm ?_
  show wpAny P .any ops Q ops.size (Array.replicate ops.size false) a0 w0.drew
  refine wpAny_slots hTt hTr hst hok (fun i o j want ho hg => ?_) hall ?_ _ _ _ _ ?_ ?_
  · have := List.all_eq_true.1 hgd o (by simpa using Array.mem_of_getElem? ho)
    rwa [hg] at this
  · intro a w hI
    refine hfin a w hI.world hI.tsize hI.defers (fun t ht => hI.free t fun j d _ hd => ht j d hd) fun j hj => hI.slot j ?_
    have hlt : j < ops.size := by
      cases hd : dstAt ops j with
      | none => rw [hd] at hj; cases hj
      | some d =>
        obtain ⟨o', ho', hod⟩ := Option.bind_eq_some_iff.1 hd
        exact (Array.getElem?_eq_some_iff.1 ho').1
    simp [Array.getD_eq_getD_getElem?, Array.getElem?_replicate, hlt]
  · simp
  · refine ⟨by simp, rfl, rfl, hTr _, fun _ _ => rfl, fun j hj => ?_⟩
    rw [Array.getD_eq_getD_getElem?, Array.getElem?_replicate] at hj
    split at hj <;> simp at hj

/-- A region that draws its order: each operation pays what its slot is said to hold; behind it, the frame with all slots laid in the text's order. -/
theorem region_slots {T : World → World → Prop} (hTt : ∀ a b c, T a b → T b c → T a c) (hTr : ∀ a, T a a) {ops : Array Oper} {pr : Nat → Value → World → Prop} (hst : ∀ i v w w', pr i v w → T w w' → pr i v w')
    {a0 : Act} {w0 : World} {id : Nat} (hm : P.follows .mixedOrders = true) (hok : okB ops a0.tmps.size = true) (hgd : (ops.toList.all fun o => (match o.guard with | some (j, _) => depB o j | none => true)) = true)
    (hall : OwesAll P Q T ops pr a0 w0.drew 0 ops.toList)
    (hfin : ∀ (vs : Nat → Value) (w : World), T w0.drew w → (∀ j, (dstAt ops j).isSome = true → pr j (vs j) w) → Q .normal (putAll vs 0 ops.toList a0) w) :
    (Code.region id ops true).wp P Q a0 w0 := by
  refine wp_region_any hm ?_
  show wpAny P .any ops Q ops.size (Array.replicate ops.size false) a0 w0.drew
  have hok' := hok
  simp only [okB, Bool.and_eq_true, decide_eq_true_eq] at hok'
  refine wpAny_slots hTt hTr hst hok (fun i o j want ho hg => ?_) hall ?_ _ _ _ _ ?_ ?_
  · have := List.all_eq_true.1 hgd o (by simpa using Array.mem_of_getElem? ho)
    rwa [hg] at this
  · intro a w hI
    have hall' : ∀ j, j < ops.size → (Array.replicate ops.size true).getD j false = true := fun j hj => by
      simp [Array.getD_eq_getD_getElem?, Array.getElem?_replicate, hj]
    have hlt' : ∀ j d, dstAt ops j = some d → j < ops.size ∧ d < a0.tmps.size := fun j d hd => by
      obtain ⟨o', ho', hod⟩ := Option.bind_eq_some_iff.1 hd
      refine ⟨(Array.getElem?_eq_some_iff.1 ho').1, ?_⟩
      have := List.all_eq_true.1 hok'.1.2 d (List.mem_filterMap.2 ⟨o', by rw [← Array.getElem?_toList] at ho'; exact List.mem_of_getElem? ho', hod⟩)
      simpa using this
    have hsl : ∀ j d, dstAt ops j = some d → pr j (a.eval (.tmp d)) w := fun j d hd => by
      have hs := hI.slot j (hall' j (hlt' j d hd).1)
      unfold SlotIs at hs
      rw [hd] at hs
      obtain ⟨v, hv, hp⟩ := hs
      rwa [eval_slot, hv]
    have hgo := hfin (fun j => match dstAt ops j with | some d => a.eval (.tmp d) | none => undef) w hI.world (fun j hj => by
      cases hd : dstAt ops j with
      | none => rw [hd] at hj; cases hj
      | some d => exact hsl j d hd)
    have e : putAll (fun j => match dstAt ops j with | some d => a.eval (.tmp d) | none => undef) 0 ops.toList a0 = a := by
      obtain ⟨tm, df⟩ := a
      have e1 : ∀ t : Nat, (putAll (fun j => match dstAt ops j with | some d => Act.eval ⟨tm, df⟩ (.tmp d) | none => undef) 0 ops.toList a0).tmps[t]? = tm[t]? := by
        intro t
        by_cases ht : ∃ j, dstAt ops j = some t
        · obtain ⟨j, hj⟩ := ht
          obtain ⟨o', ho', hod⟩ := Option.bind_eq_some_iff.1 hj
          rw [putAll_at ops.toList 0 a0 j o' t hok'.1.1 (by rw [Array.getElem?_toList]; exact ho') hod (hlt' j t hj).2, Nat.zero_add]
          simp only [hj]
          have htl : t < tm.size := by
            have := hI.tsize
            simp only at this
            rw [this]
            exact (hlt' j t hj).2
          simp [Act.eval, Array.getD_eq_getD_getElem?, Array.getElem?_eq_getElem htl]
        · rw [putAll_other]
          · have := hI.free t (fun j d _ hd e => ht ⟨j, by rw [hd, e]⟩)
            exact this.symm
          · intro o ho e
            obtain ⟨j, hj⟩ := List.getElem?_of_mem ho
            exact ht ⟨j, by rw [Array.getElem?_toList] at hj; simp [dstAt, hj, e]⟩
      have e2 := putAll_defers (vs := fun j => match dstAt ops j with | some d => Act.eval ⟨tm, df⟩ (.tmp d) | none => undef) ops.toList 0 a0
      have e3 := hI.defers
      simp only at e3
      generalize putAll (fun j => match dstAt ops j with | some d => Act.eval ⟨tm, df⟩ (.tmp d) | none => undef) 0 ops.toList a0 = b at e1 e2
      obtain ⟨bt, bd⟩ := b
      simp only at e1 e2
      rw [Array.ext_getElem? e1, e2, e3]
    rwa [e] at hgo
  · simp
  · refine ⟨by simp, rfl, rfl, hTr _, fun _ _ => rfl, fun j hj => ?_⟩
    rw [Array.getD_eq_getD_getElem?, Array.getElem?_replicate] at hj
    split at hj <;> simp at hj

/-- What a slot is said to hold, with the reason why later operations do not turn it. -/
structure PrT (T : World → World → Prop) where
  p : Value → World → Prop
  st : ∀ v w w', p v w → T w w' → p v w'
def prOf {T : World → World → Prop} (prs : List (PrT T)) (i : Nat) : Value → World → Prop :=
  match prs[i]? with
  | some q => q.p
  | none => fun _ _ => True
theorem prOf_st {T : World → World → Prop} (prs : List (PrT T)) : ∀ i v w w', prOf prs i v w → T w w' → prOf prs i v w' := by
  intro i v w w' h ht
  unfold prOf at *
  cases hq : prs[i]? with
  | none => trivial
  | some q => rw [hq] at h; exact q.st _ _ _ h ht
/-- The slot holds just this value. -/
def PrT.is {T : World → World → Prop} (x : Value) : PrT T := ⟨fun v _ => v = x, fun _ _ _ h _ => h⟩
/-- Nothing is said. -/
def PrT.any {T : World → World → Prop} : PrT T := ⟨fun _ _ => True, fun _ _ _ h _ => h⟩

/-- The slots laid one by one: steps that the walk takes as it takes assignments. -/
def laid (vs : Nat → Value) : Nat → List Oper → List Oper
  | _, [] => []
  | i, o :: rest => { dst := o.dst, op := .assign (.const (vs i)), type := 0, pos := "", after := #[], guard := none } :: laid vs (i + 1) rest
theorem laid_put {P : Program} {Q : Exit → Act → World → Prop} (ops : Array Oper) (vs : Nat → Value) : ∀ (l : List Oper) (i : Nat) (a : Act) (w : World), wpList P ops Q (laid vs i l) a w → Q .normal (putAll vs i l a) w
  | [], _, _, _, h => h
  | o :: rest, i, a, w, h => by
    unfold laid wpList at h
    rw [if_pos (by simp [Region.wanted])] at h
    rcases h with h | ⟨⟨h, _⟩, _⟩
    · exact laid_put ops vs rest (i + 1) _ w h
    · have h2 : noRoomEvent ∈ (#[] : Array Event) := h
      simp at h2
/-- The same with the slots' lore kept out of sight: what is shown of the slots at the end is all that goes on. -/
theorem region_to {P : Program} {Q : Exit → Act → World → Prop} {T : World → World → Prop} (hTt : ∀ a b c, T a b → T b c → T a c) (hTr : ∀ a, T a a) {ops : Array Oper} {a0 : Act} {w0 : World} {id : Nat} (Φ : (Nat → Value) → World → Prop)
    (hm : P.follows .mixedOrders = true) (hok : okB ops a0.tmps.size = true) (hgd : (ops.toList.all fun o => (match o.guard with | some (j, _) => depB o j | none => true)) = true)
    (hall : ∃ prs : List (PrT T), OwesAll P Q T ops (prOf prs) a0 w0.drew 0 ops.toList ∧ ∀ vs w, T w0.drew w → (∀ j, (dstAt ops j).isSome = true → prOf prs j (vs j) w) → Φ vs w)
    (hfin : ∀ (vs : Nat → Value) (w : World), T w0.drew w → Φ vs w → wpList P #[] Q (laid vs 0 ops.toList) a0 w) :
    (Code.region id ops true).wp P Q a0 w0 := by
  obtain ⟨prs, h1, h2⟩ := hall
  exact region_slots hTt hTr (prOf_st prs) hm hok hgd h1 fun vs w ht hp => laid_put _ _ _ _ _ _ (hfin vs w ht (h2 vs w ht hp))
theorem region_last_to {P : Program} {Q : Exit → Act → World → Prop} {T : World → World → Prop} (hTt : ∀ a b c, T a b → T b c → T a c) (hTr : ∀ a, T a a) {ops : Array Oper} {a0 : Act} {w0 : World} {id : Nat} (k : Nat) (x : Value)
    (hm : P.follows .mixedOrders = true) (hok : okB ops a0.tmps.size = true) (hgd : (ops.toList.all fun o => (match o.guard with | some (j, _) => depB o j | none => true)) = true) (d : Nat) (hd : dstAt ops k = some d)
    (hall : ∃ prs : List (PrT T), OwesAll P Q T ops (prOf prs) a0 w0.drew 0 ops.toList ∧ ∀ v w, T w0.drew w → prOf prs k v w → v = x)
    (hfin : ∀ (a : Act) (w : World), T w0.drew w → a.tmps.size = a0.tmps.size → a.defers = a0.defers → (a.tmps[d]?).getD undef = x → Q .normal a w) :
    (Code.region id ops true).wp P Q a0 w0 := by
  obtain ⟨prs, h1, h2⟩ := hall
  refine region_last hTt hTr (prOf_st prs) hm hok hgd h1 fun a w ht hs hdf _ hp => ?_
  have h := hp k (by rw [hd]; rfl)
  unfold SlotIs at h
  rw [hd] at h
  obtain ⟨v, e, hv⟩ := h
  exact hfin a w ht hs hdf (by rw [e]; exact h2 v w ht hv)

section
variable {T : World → World → Prop} {ops : Array Oper} {pr : Nat → Value → World → Prop} {a0 : Act} {w0 : World} {i : Nat} {o : Oper}
theorem owes_plain (hg : o.guard = none) (h : ∀ a w, T w0 w → (∀ t, freeB ops t = true → (a.tmps[t]?).getD undef = (a0.tmps[t]?).getD undef) → (∀ j, depB o j = true → SlotIs ops pr a w j) → StepOp P Q o a w fun v w' => T w w' ∧ pr i v w') : Owes P Q T ops pr a0 w0 i o :=
  Or.inl ⟨(fun j want hh => by rw [hg] at hh; cases hh), h⟩
theorem owes_if {j : Nat} {want : Bool} (hg : o.guard = some (j, want)) (hd : (dstAt ops j).isSome = true) (hp : ∀ v w, pr j v w → v = .bool want)
    (h : ∀ a w, T w0 w → (∀ t, freeB ops t = true → (a.tmps[t]?).getD undef = (a0.tmps[t]?).getD undef) → (∀ j, depB o j = true → SlotIs ops pr a w j) → StepOp P Q o a w fun v w' => T w w' ∧ pr i v w') : Owes P Q T ops pr a0 w0 i o :=
  Or.inl ⟨fun j' want' hh => by
    rw [hg] at hh
    injection hh with hh
    injection hh with h1 h2
    subst h1; subst h2
    exact ⟨hd, hp⟩, h⟩
theorem owes_not {j : Nat} {want : Bool} (hg : o.guard = some (j, want)) (hd : (dstAt ops j).isSome = true) (hp : ∀ v w, pr j v w → v ≠ .bool want) (h : ∀ w, pr i undef w) : Owes P Q T ops pr a0 w0 i o :=
  Or.inr ⟨j, want, hg, hd, hp, h⟩
end
end
end Go.Proofs.YtbhaekdfpfncnaaDoor
