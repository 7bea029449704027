/- HMAC and HKDF over SHA-256 as plain mathematics; a copy into a block known whole. -/
import Derived.Test.YtbhaekdfpfncnaaDoorSha2
import Derived.Laws.CopyOwn
namespace Go.Proofs.YtbhaekdfpfncnaaDoor
set_option linter.unusedVariables false
set_option linter.unusedSimpArgs false
open Go.RowKit

/-- A key made 64 bytes long. -/
def keyB (k : List UInt8) : List UInt8 := (fun h => h ++ List.replicate (64 - h.length) 0) (if 64 < k.length then sha k else k)
def xorB (l : List UInt8) (c : UInt8) : List UInt8 := l.map fun x => x ^^^ c
def mac (k m : List UInt8) : List UInt8 := sha (xorB (keyB k) 92 ++ sha (xorB (keyB k) 54 ++ m))
/-- The first 32 bytes of HKDF. -/
def hkey (salt secret info : List UInt8) : List UInt8 := mac (mac salt secret) (info ++ [1])
theorem mac_jefe : mac [0x4a, 0x65, 0x66, 0x65] [0x77, 0x68, 0x61, 0x74, 0x20, 0x64, 0x6f, 0x20, 0x79, 0x61, 0x20, 0x77, 0x61, 0x6e, 0x74, 0x20, 0x66, 0x6f, 0x72, 0x20, 0x6e, 0x6f, 0x74, 0x68, 0x69, 0x6e, 0x67, 0x3f] =
  [0x5b, 0xdc, 0xc1, 0x46, 0xbf, 0x60, 0x75, 0x4e, 0x6a, 0x04, 0x24, 0x26, 0x08, 0x95, 0x75, 0xc7, 0x5a, 0x00, 0x3f, 0x08, 0x9d, 0x27, 0x39, 0x83, 0x9d, 0xec, 0x58, 0xb9, 0x64, 0xec, 0x38, 0x43] := by decide +kernel
theorem keyB_length (k : List UInt8) : (keyB k).length = 64 := by
  unfold keyB
  by_cases h : 64 < k.length
  · simp [h, sha_length]
  · simp [h]; omega
theorem xorB_length (l : List UInt8) (c : UInt8) : (xorB l c).length = l.length := by simp [xorB]
theorem mac_length (k m : List UInt8) : (mac k m).length = 32 := sha_length _
theorem hkey_length (a b c : List UInt8) : (hkey a b c).length = 32 := sha_length _
/-- The first n bytes turned. -/
def xorP (l : List UInt8) (c : UInt8) (n : Nat) : List UInt8 := xorB (l.take n) c ++ l.drop n
theorem xorP_length (l : List UInt8) (c : UInt8) (n : Nat) : (xorP l c n).length = l.length := by simp [xorP, xorB]; omega
theorem xorP_zero (l : List UInt8) (c : UInt8) : xorP l c 0 = l := by simp [xorP, xorB]
theorem xorP_all (l : List UInt8) (c : UInt8) (n : Nat) (h : l.length ≤ n) : xorP l c n = xorB l c := by simp [xorP, List.take_of_length_le h, List.drop_of_length_le h]
theorem xorP_get (l : List UInt8) (c : UInt8) (n : Nat) (h : n < l.length) : (xorP l c n)[n]? = some l[n] := by
  unfold xorP
  rw [List.getElem?_append_right (by rw [xorB_length, List.length_take]; omega), xorB_length, List.length_take, Nat.min_eq_left (by omega), Nat.sub_self, List.getElem?_drop]
  simp [h]
theorem xorP_set (l : List UInt8) (c : UInt8) (n : Nat) (h : n < l.length) : (xorP l c n).set n (l[n] ^^^ c) = xorP l c (n + 1) := by
  have h1 : (xorB (l.take n) c).length = n := by rw [xorB_length, List.length_take]; omega
  unfold xorP
  rw [List.set_append_right _ _ (by omega), h1, Nat.sub_self, List.drop_eq_getElem_cons h, List.set_cons_zero, List.take_succ_eq_append_getElem h]
  unfold xorB
  rw [List.map_append, List.append_assoc]
  rfl

theorem rd_blk {w : World} {g : Nat} {t : TypeId} {xs : List Value} (h : Blk w g t xs.toArray) : Rd w (fun k => k = g) (some ⟨g, 0, none⟩) xs := fun j u hu => by
  refine ⟨_, rfl, rfl, ?_⟩
  rw [Addr.add_lit, Nat.zero_add, h.cell j]
  simpa using hu
theorem rd_blk_at {w : World} {g : Nat} {t : TypeId} {cs : Array Value} (h : Blk w g t cs) (off : Nat) (xs : List Value) (hx : ∀ j u, xs[j]? = some u → cs[off + j]? = some u) : Rd w (fun k => k = g) (some ⟨g, off, none⟩) xs := fun j u hu => by
  refine ⟨_, rfl, rfl, ?_⟩
  rw [Addr.add_lit, h.cell]
  exact hx j u hu
theorem bc_all (l : List UInt8) : (bc l).toArray.all (·.oneCell') = true := by
  rw [Array.all_eq_true']
  intro u hu
  exact bc_one _ u (by simpa using hu)
theorem bc_asize (l : List UInt8) : (bc l).toArray.size = l.length := by simp
theorem bc_aset (l : List UInt8) (i : Nat) (u : UInt8) : (bc l).toArray.setIfInBounds i (.int .u8 (u.toNat : Int)) = (bc (l.set i u)).toArray := by simp [bc, List.map_set]

/-- The cells of a slice of slices. -/
theorem RdL.vals {w : World} {F : Nat → Prop} {A : Option Addr} {ls : List (List UInt8)} (h : RdL w F A ls) : ∃ vs : List Value, vs.length = ls.length ∧ Rd w F A vs ∧ (∀ u ∈ vs, u.oneCell' = true) ∧
    ∀ (i : Nat) (l : List UInt8), ls[i]? = some l → ∃ a c, vs[i]? = some (Value.slice a l.length c) ∧ Rd w F a (bc l) ∧ l.length ≤ c := by
  obtain ⟨vs, hl, hr, hi⟩ := h
  refine ⟨vs, hl, hr, fun u hu => ?_, hi⟩
  obtain ⟨i, hlt, rfl⟩ := List.mem_iff_getElem.1 hu
  obtain ⟨a, c, e, _⟩ := hi i _ (List.getElem?_eq_getElem (by omega))
  rw [List.getElem?_eq_getElem hlt] at e
  injection e with e
  rw [e]
  rfl
/-- A row of the call's own: one slice, then those of a list. -/
theorem rdl_own {w w' : World} {base n size : Nat} {e : TypeId} {A' a0 : Option Addr} {c' c0 n0 : Nat} {l0 : List UInt8} {ls : List (List UInt8)} {vs : List Value} {F G : Nat → Prop} {S : Nat → Prop}
    (hown : w'.ownsRow base e size (.slice A' n c') n (.slice a0 n0 c0 :: vs)) (hn0 : n0 = l0.length) (hsz : 0 < size) (h0 : Rd w' G a0 (bc l0)) (hc0 : l0.length ≤ c0) (hvl : vs.length = ls.length)
    (hvi : ∀ (i : Nat) (l : List UInt8), ls[i]? = some l → ∃ a c, vs[i]? = some (Value.slice a l.length c) ∧ Rd w F a (bc l) ∧ l.length ≤ c) (hf : Fr S w w') (hd : ∀ k, k < w.heap.size → F k → ¬ S k) : RdL w' (fun _ => True) A' (l0 :: ls) := by
  subst hn0
  refine ⟨.slice a0 l0.length c0 :: vs, by simp [hvl], (Rd.of_own hown hsz).mono fun _ _ _ => trivial, fun i l hi => ?_⟩
  cases i with
  | zero =>
    simp at hi
    subst hi
    exact ⟨a0, c0, rfl, h0.mono fun _ _ _ => trivial, hc0⟩
  | succ i =>
    obtain ⟨a, c, e, hr, hc⟩ := hvi i l (by simpa using hi)
    exact ⟨a, c, by simpa using e, (hr.keep hf hd).mono fun _ _ _ => trivial, hc⟩

theorem rdl_two_eq {w : World} {F : Nat → Prop} {a b : Option Addr} {l m : List UInt8} {c d g n k : Nat} (t : TypeId) (hr : Rd w F a (bc l)) (hc : l.length ≤ c) (hs : Rd w F b (bc m)) (hd : m.length ≤ d) (hg : g = w.heap.size) (hn : n = l.length) (hk : k = m.length) :
    RdL (w.alloc (.cells #[.slice a n c, .slice b k d] t)) (fun _ => True) (some ⟨g, 0, none⟩) [l, m] := by
  subst hn hk
  exact (rdl_two t hr hc hs hd hg).mono fun _ _ _ => trivial

theorem rdl_three_eq {w : World} {F : Nat → Prop} {a b z : Option Addr} {l m r : List UInt8} {c d f g n k j : Nat} (t : TypeId) (hr : Rd w F a (bc l)) (hc : l.length ≤ c) (hs : Rd w F b (bc m)) (hd : m.length ≤ d) (hz : Rd w F z (bc r)) (hf : r.length ≤ f) (hg : g = w.heap.size) (hn : n = l.length) (hk : k = m.length) (hj : j = r.length) :
    RdL (w.alloc (.cells #[.slice a n c, .slice b k d, .slice z j f] t)) (fun _ => True) (some ⟨g, 0, none⟩) [l, m, r] := by
  subst hn hk hj hg
  refine ⟨[.slice a l.length c, .slice b m.length d, .slice z r.length f], rfl, (rd_lit w #[.slice a l.length c, .slice b m.length d, .slice z r.length f] t (0, 0)).mono fun _ _ _ => trivial, fun i x h => ?_⟩
  match i, h with
  | 0, h =>
    simp at h
    subst h
    exact ⟨a, c, rfl, (hr.alloc _).mono fun _ _ _ => trivial, hc⟩
  | 1, h =>
    simp at h
    subst h
    exact ⟨b, d, rfl, (hs.alloc _).mono fun _ _ _ => trivial, hd⟩
  | 2, h =>
    simp at h
    subst h
    exact ⟨z, f, rfl, (hz.alloc _).mono fun _ _ _ => trivial, hf⟩
  | i + 3, h => simp at h
/-- New memory, one step more. -/
theorem NewMem.more {w w1 : World} (h : NewMem w w1) (o : Obj) : NewMem w (w1.alloc o) := Below.alloc h h.size o

section
variable {P : Program} {ops : Array Oper} {rest : List Oper} {o : Oper} {a : Act} {Q : Exit → Act → World → Prop}
/-- A whole array, or struct, read out of memory. -/
theorem run_loadVar_rd (w : World) (ad : Addr) (ty : TypeId) (xs : List Value) (d : TypeDesc) (hc : ∀ j v, xs[j]? = some v → w.cell? (ad.add j) = some v)
    (hu : P.underlying ty = some d) (hd : (match d with | .struct _ | .array _ _ => true | _ => false) = true) (hi : (P.info? ty).map (·.size) = some xs.length) :
    (loadVar ty ad).run P w = .ok (.agg xs.toArray) w := by
  have hl := run_loadCells_list (P := P) w ad xs hc
  cases hq : P.info? ty with
  | none => simp [hq] at hi
  | some i =>
    have hs : i.size = xs.length := by simpa [hq] using hi
    have hagg : (isAgg ty).run P w = .ok true w := by
      unfold isAgg
      rw [Sem.run_bind, run_underlying hu w]
      cases d <;> simp_all
    simp [loadVar, Sem.run_bind, hagg, sizeOf, typeInfo, hq, hs, hl]
theorem wpList_load_rd {w : World} (hgd : o.guard = none) (ty : TypeId) (x : Operand) (ho : o.op = .load ty x) (ad : Addr) (hx : a.eval x = .pointer (some ad)) (xs : List Value) (d : TypeDesc)
    (hc : ∀ j v, xs[j]? = some v → w.cell? (ad.add j) = some v) (hu : P.underlying ty = some d) (hd : (match d with | .struct _ | .array _ _ => true | _ => false) = true) (hi : (P.info? ty).map (·.size) = some xs.length)
    (h : wpList P ops Q rest (a.put o.dst (.agg xs.toArray)) w) : wpList P ops Q (o :: rest) a w := wpList_plain hgd fun K hK => by
  unfold Oper.wp execOp
  simp only [ho, hx, Instr.loadAt, Instr.sureAddr, Sem.run_bind, Sem.run_pure, Result.andThen_ok, run_loadVar_rd w ad ty xs d hc hu hd hi]
  exact hK _ _ h
/-- A copy to the head of a block known whole. -/
theorem wpList_copy_rd {w : World} (hgd : o.guard = none) (d s : Operand) (dT sT : TypeId) (ho : o.op = .call { callee := .builtin .copy, args := #[d, s], argTypes := #[dT, sT] })
    (elem : TypeId) (hu : P.underlying dT = some (.slice elem)) (hsz : (P.info? elem).map (·.size) = some 1)
    (g dLen dCap : Nat) (A : Option Addr) (c : Nat) (l : List UInt8) (hd : a.eval d = .slice (some ⟨g, 0, none⟩) dLen dCap) (hs : a.eval s = .slice A l.length c)
    (cur : List Value) (t : TypeId) (hg : Blk w g t cur.toArray) (F : Nat → Prop) (hr : Rd w F A (bc l)) (hl : l.length ≤ dLen) (hdl : dLen ≤ cur.length)
    (h : ∀ w', Blk w' g t (bc l ++ cur.drop l.length).toArray → Fr (fun k => k = g) w w' → wpList P ops Q rest (a.put o.dst (goInt l.length)) w') : wpList P ops Q (o :: rest) a w := by
  by_cases h0 : l.length = 0
  · obtain rfl : l = [] := List.eq_nil_of_length_eq_zero h0
    refine wpList_copy_nothing hgd d s dT sT ho elem hu hsz _ _ dLen dCap _ c hd hs (by simp) ?_
    exact h w (by simpa using hg) (Fr.refl _ _)
  · obtain ⟨ad, rfl, _, hc⟩ := hr.some (by intro e; apply h0; rw [← bc_length, e]; rfl)
    have := wpList_copy_own (P := P) (ops := ops) (rest := rest) (Q := Q) (w := w) hgd d s dT sT ho elem hu hsz g 0 dLen dCap ad l.length c hd hs cur.toArray t hg (bc l) (by rw [bc_length]; exact (Nat.min_eq_left hl).symm) (fun j v hv => hc j v hv) (by simp; omega) (bc_one l)
    rw [bc_length] at this
    refine this (h _ ?_ ((Fr.refl (fun k => k = g) w).setRow (g := g) (fun _ => rfl) _))
    have hb := hg.setRow (cur.toArray.toList.take 0 ++ (bc l ++ cur.toArray.toList.drop (0 + l.length))).toArray
    simpa using hb
end
end Go.Proofs.YtbhaekdfpfncnaaDoor
