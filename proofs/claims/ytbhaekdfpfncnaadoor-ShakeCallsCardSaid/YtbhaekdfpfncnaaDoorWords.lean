/- Plain words on memory for the proofs of this seat: slices that read as a list of bytes, frames, blocks known whole. No condition, no program. -/
import Derived.WalkKit
import Derived.WalkSpells
import Derived.WalkLawsBesides
import Derived.Maps.AppendAt
import Derived.Deep.AppendLies
import Derived.Deep.Draws
import Derived.Deep.LoopGhost
import Derived.Deep.QuietTactic
import Derived.BigQuiet
import Derived.Lib.Hide
import Derived.Laws.BytesArg
namespace Go.Proofs.YtbhaekdfpfncnaaDoor
set_option linter.unusedVariables false
set_option linter.unusedSimpArgs false
open Go.RowKit

theorem blk_add (a : Addr) (n : Nat) : (a.add n).block = a.block := by unfold Addr.add; split <;> rfl
theorem add_addr (a : Addr) (i j : Nat) : (a.add i).add j = a.add (i + j) := by
  unfold Addr.add
  by_cases hi : i = 0 <;> by_cases hj : j = 0 <;> simp [hi, hj, Nat.add_assoc]

/-- The cells of bytes. -/
def bc (l : List UInt8) : List Value := l.map fun c => .int .u8 (c.toNat : Int)
@[simp] theorem bc_length (l : List UInt8) : (bc l).length = l.length := by simp [bc]
@[simp] theorem bc_nil : bc [] = [] := rfl
theorem bc_append (l m : List UInt8) : bc (l ++ m) = bc l ++ bc m := by simp [bc]
theorem bc_cons (c : UInt8) (m : List UInt8) : bc (c :: m) = .int .u8 (c.toNat : Int) :: bc m := rfl
theorem bc_take (l : List UInt8) (n : Nat) : bc (l.take n) = (bc l).take n := by simp [bc]
theorem bc_drop (l : List UInt8) (n : Nat) : bc (l.drop n) = (bc l).drop n := by simp [bc]
theorem bc_get (l : List UInt8) (j : Nat) (h : j < l.length) : (bc l)[j]? = some (.int .u8 (l[j].toNat : Int)) := by simp [bc, h]
theorem bc_one (l : List UInt8) : ∀ u ∈ bc l, u.oneCell' = true := by
  intro u hu
  obtain ⟨c, _, rfl⟩ := List.mem_map.1 hu
  rfl
theorem bc_inj {l m : List UInt8} (h : bc l = bc m) : l = m := by
  induction l generalizing m with
  | nil => cases m with
    | nil => rfl
    | cons c m => simp [bc] at h
  | cons c l ih => cases m with
    | nil => simp [bc] at h
    | cons d m =>
      simp only [bc, List.map_cons, List.cons.injEq, Value.int.injEq, true_and] at h
      have h1 : c = d := UInt8.toNat_inj.1 (by omega)
      rw [h1, ih h.2]

/-- A slice value at A reads as the cells xs; all of them lie in blocks of F. -/
def Rd (w : World) (F : Nat → Prop) (A : Option Addr) (xs : List Value) : Prop :=
  ∀ j u, xs[j]? = some u → ∃ ad, A = some ad ∧ F ad.block ∧ w.cell? (ad.add j) = some u

/-- Outside of S nothing that was there has turned. -/
structure Fr (S : Nat → Prop) (w w' : World) : Prop where
  os : w'.os = w.os
  tape : w'.tape = w.tape
  output : w'.output = w.output
  size : w.heap.size ≤ w'.heap.size
  block : ∀ k, k < w.heap.size → ¬ S k → w'.heap[k]? = w.heap[k]?

section
variable {S S' F F' : Nat → Prop} {w w' w1 w2 : World} {A : Option Addr} {xs ys : List Value}

theorem Fr.refl (S : Nat → Prop) (w : World) : Fr S w w := ⟨rfl, rfl, rfl, Nat.le_refl _, fun _ _ _ => rfl⟩
theorem Fr.trans' (h : Fr S w w1) (k : Fr S' w1 w2) (hs : ∀ b, b < w.heap.size → S' b → S b) : Fr S w w2 :=
  ⟨k.os.trans h.os, k.tape.trans h.tape, k.output.trans h.output, Nat.le_trans h.size k.size,
    fun b hb hn => (k.block b (Nat.lt_of_lt_of_le hb h.size) (fun hs' => hn (hs b hb hs'))).trans (h.block b hb hn)⟩
theorem Fr.trans (h : Fr S w w1) (k : Fr S w1 w2) : Fr S w w2 := h.trans' k fun _ _ h => h
theorem Fr.mono (h : Fr S w w') (hs : ∀ b, b < w.heap.size → S b → S' b) : Fr S' w w' :=
  ⟨h.os, h.tape, h.output, h.size, fun b hb hn => h.block b hb fun x => hn (hs b hb x)⟩
theorem Fr.below {B : Nat} (h : Fr (fun k => B ≤ k) w w') (hB : B ≤ w.heap.size) : Below B w w' :=
  ⟨h.os, h.tape, h.output, h.size, fun k hk => h.block k (by omega) (by omega)⟩
theorem Fr.of_below {B : Nat} (h : Below B w w') (hs : ∀ b, b < w.heap.size → B ≤ b → S b) : Fr S w w' :=
  ⟨h.os, h.tape, h.output, h.size, fun k hk hn => h.block k (by
    rcases Nat.lt_or_ge k B with h1 | h1
    · exact h1
    · exact absurd (hs k hk h1) hn)⟩
theorem Fr.new (h : Below w.heap.size w w') : Fr S w w' := Fr.of_below h fun b hb hb' => absurd hb (by omega)
theorem Fr.alloc (h : Fr S w w') (o : Obj) : Fr S w (w'.alloc o) := h.trans ⟨rfl, rfl, rfl, by simp, fun k hk _ => Below.heap_alloc w' o k hk⟩
theorem Fr.drew (h : Fr S w w') : Fr S w w'.drew := ⟨h.os, h.tape, h.output, h.size, h.block⟩
theorem Fr.drewN (h : Fr S w w') (n : Nat) : Fr S w (w'.drewN n) := ⟨h.os, h.tape, h.output, h.size, h.block⟩
theorem Fr.setCell (h : Fr S w w') {p : Addr} (hp : p.block < w.heap.size → S p.block) (u : Value) : Fr S w (w'.setCell p u) :=
  ⟨h.os, h.tape, h.output, by simpa using h.size, fun k hk hn => (Below.heap_setCell w' p u k (fun e => hn (by subst e; exact hp hk))).trans (h.block k hk hn)⟩
theorem Fr.set1 (h : Fr S w w') {g i : Nat} (hg : S g) (u : Value) : Fr S w (w'.setCell ⟨g, i, none⟩ u) := h.setCell (p := ⟨g, i, none⟩) (fun _ => hg) u
theorem Fr.setRow (h : Fr S w w') {g : Nat} (hg : g < w.heap.size → S g) (cs : Array Value) : Fr S w (w'.setRow g cs) :=
  ⟨h.os, h.tape, h.output, by simpa using h.size, fun k hk hn => (setRow_other w' g k cs (fun e => hn (by subst e; exact hg hk))).trans (h.block k hk hn)⟩
theorem Fr.grown (h : Fr S w w1) {row : Option Nat} (hg : w1.grownBy w2 row) (hr : ∀ k, row = some k → k < w.heap.size → S k) : Fr S w w2 :=
  ⟨hg.os.trans h.os, hg.tape.trans h.tape, hg.output.trans h.output, Nat.le_trans h.size hg.size,
    fun k hk hn => (hg.block k (Nat.lt_of_lt_of_le hk h.size) (fun e => hn (hr k e.symm hk))).trans (h.block k hk hn)⟩
theorem Fr.cell (h : Fr S w w') {p : Addr} (hp : p.block < w.heap.size) (hn : ¬ S p.block) : w'.cell? p = w.cell? p := World.cell?_of_block (h.block p.block hp hn)

theorem below_fr {B : Nat} (h : Below B w w1) (hf : Fr S w1 w2) (hB : B ≤ w.heap.size) (hS : ∀ k, k < B → ¬ S k) : Below B w w2 :=
  h.trans ⟨hf.os, hf.tape, hf.output, hf.size, fun k hk => hf.block k (Nat.lt_of_lt_of_le hk (Nat.le_trans hB h.size)) (hS k hk)⟩
theorem below_then {B : Nat} (h : Below B w w1) (hb : Below w1.heap.size w1 w2) (hB : B ≤ w.heap.size) : Below B w w2 := h.trans (hb.mono (Nat.le_trans hB h.size))
theorem below_all {B : Nat} (h : Below B w w1) (hB : B ≤ w.heap.size) (o : Obj) : Below B w (w1.alloc o) := h.alloc (Nat.le_trans hB h.size) o
theorem Rd.keep (h : Rd w F A xs) (hf : Fr S w w') (hd : ∀ k, k < w.heap.size → F k → ¬ S k) : Rd w' F A xs := fun j u hu => by
  obtain ⟨ad, e, hF, hc⟩ := h j u hu
  have hlt := World.block_lt_of_cell? w _ hc
  rw [blk_add] at hlt
  exact ⟨ad, e, hF, (hf.cell (p := ad.add j) (by rw [blk_add]; exact hlt) (by rw [blk_add]; exact hd _ hlt hF)).trans hc⟩
theorem Rd.below (h : Rd w F A xs) (hb : Below w.heap.size w w') : Rd w' F A xs := h.keep (S := fun _ => False) (Fr.new hb) fun _ _ _ h => h
theorem Rd.belowB {B : Nat} (h : Rd w F A xs) (hb : Below B w w') (hF : ∀ k, F k → k < B) : Rd w' F A xs :=
  h.keep (S := fun k => B ≤ k) (Fr.of_below hb fun _ _ h => h) fun k _ hk => by have := hF k hk; omega
theorem Rd.mono (h : Rd w F A xs) (hF : ∀ k, k < w.heap.size → F k → F' k) : Rd w F' A xs := fun j u hu => by
  obtain ⟨ad, e, hk, hc⟩ := h j u hu
  have hlt := World.block_lt_of_cell? w _ hc
  rw [blk_add] at hlt
  exact ⟨ad, e, hF _ hlt hk, hc⟩
theorem Rd.alloc (h : Rd w F A xs) (o : Obj) : Rd (w.alloc o) F A xs := h.keep (S := fun _ => False) ((Fr.refl _ _).alloc o) fun _ _ _ h => h
theorem Rd.drew (h : Rd w F A xs) : Rd w.drew F A xs := h
theorem Rd.drewN (h : Rd w F A xs) (n : Nat) : Rd (w.drewN n) F A xs := h
theorem Rd.nil (w : World) (F : Nat → Prop) (A : Option Addr) : Rd w F A [] := fun j u hu => by simp at hu
theorem Rd.some (h : Rd w F A xs) (hn : xs ≠ []) : ∃ ad, A = some ad ∧ F ad.block ∧ ∀ j u, xs[j]? = .some u → w.cell? (ad.add j) = .some u := by
  cases xs with
  | nil => exact absurd rfl hn
  | cons x xs =>
    obtain ⟨ad, e, hF, _⟩ := h 0 x rfl
    refine ⟨ad, e, hF, fun j u hu => ?_⟩
    obtain ⟨ad', e', _, hc⟩ := h j u hu
    rw [e] at e'
    injection e' with e'
    subst e'
    exact hc
theorem Rd.at_ {l : List UInt8} (h : Rd w F A (bc l)) {j : Nat} (hj : j < l.length) : ∃ ad, A = .some ad ∧ w.cell? (ad.add j) = .some (.int .u8 (l[j].toNat : Int)) := by
  obtain ⟨ad, e, _, hc⟩ := h j _ (bc_get l j hj)
  exact ⟨ad, e, hc⟩
theorem Rd.form (h : Rd w F A xs) (hn : 0 < xs.length) : ∃ b off, A = .some ⟨b, off, none⟩ ∧ F b ∧ ∀ j u, xs[j]? = .some u → w.cell? ⟨b, off + j, none⟩ = .some u := by
  obtain ⟨ad, e, hF, hc⟩ := h.some (by intro h0; rw [h0] at hn; simp at hn)
  have h0 := hc 0 _ (List.getElem?_eq_getElem hn)
  obtain ⟨b, off, spot⟩ := ad
  have hs : spot = none := by
    cases spot with
    | none => rfl
    | some q => simp [Addr.add, World.cell?] at h0; split at h0 <;> cases h0
  subst hs
  exact ⟨b, off, e, hF, fun j u hu => by have := hc j u hu; rwa [Addr.add_lit] at this⟩
/-- A cut 'x[k:]', the address with the model's own test on the capacity. -/
theorem Rd.cut (h : Rd w F A xs) {k cap : Nat} (hc : xs.length ≤ cap) : Rd w F (if cap = k then A else A.map (·.add k)) (xs.drop k) := fun j u hu => by
  rw [List.getElem?_drop] at hu
  have hlt : k + j < xs.length := (List.getElem?_eq_some_iff.1 hu).1
  obtain ⟨ad, e, hF, hcell⟩ := h _ u hu
  rw [if_neg (by omega), e]
  exact ⟨ad.add k, rfl, by rw [blk_add]; exact hF, by rw [add_addr]; exact hcell⟩
theorem Rd.cut' (h : Rd w F A xs) (k : Nat) : Rd w F (A.map (·.add k)) (xs.drop k) := fun j u hu => by
  rw [List.getElem?_drop] at hu
  obtain ⟨ad, e, hF, hcell⟩ := h _ u hu
  rw [e]
  exact ⟨ad.add k, rfl, by rw [blk_add]; exact hF, by rw [add_addr]; exact hcell⟩
theorem Rd.cutAt {b off : Nat} (h : Rd w F (.some ⟨b, off, none⟩) xs) (k : Nat) : Rd w F (.some ⟨b, off + k, none⟩) (xs.drop k) := by
  have := h.cut' k
  simpa [Addr.add_lit] using this
theorem Rd.take (h : Rd w F A xs) (k : Nat) : Rd w F A (xs.take k) := fun j u hu => h j u (by
  rw [List.getElem?_take] at hu
  split at hu
  · exact hu
  · cases hu)
theorem Rd.of_own {base n size : Nat} {e : TypeId} {c : Nat} (h : w.ownsRow base e size (.slice A n c) n xs) (hs : 0 < size) : Rd w (fun k => base ≤ k ∧ k < w.heap.size) A xs := fun j u hu => by
  have hn : 0 < n := by
    rcases Nat.eq_zero_or_pos n with h0 | h0
    · subst h0
      have hl : xs.length = 0 := by simpa using h.1
      have := (List.getElem?_eq_some_iff.1 hu).1
      omega
    · exact h0
  obtain ⟨g, cap, hv, hb, hlt⟩ := h.form hn
  injection hv with hA _ _
  subst hA
  exact ⟨_, rfl, ⟨hb, hlt⟩, h.cells (g := g) rfl j u hu⟩
end

theorem rd_one (w : World) (v : Value) (t : TypeId) : Rd (w.alloc (.cells #[v] t)) (fun k => k = w.heap.size) (some ⟨w.heap.size, 0, none⟩) [v] := fun j u hu =>
  ⟨_, rfl, rfl, cell_one_new w v t j u hu⟩
theorem rd_lit (w : World) (cs : Array Value) (t : TypeId) (fr : Nat × Nat) : Rd (w.alloc (.cells cs t fr)) (fun k => k = w.heap.size) (some ⟨w.heap.size, 0, none⟩) cs.toList := fun j u hu => by
  refine ⟨_, rfl, rfl, ?_⟩
  rw [Addr.add_lit, Nat.zero_add, cell_of_row _ _ j cs t fr (heap_alloc_new w _)]
  simpa using hu
theorem one_of_int (k : IntKind) (n : Int) : ∀ u ∈ [Value.int k n], u.oneCell' = true := by
  intro u hu
  simp at hu
  subst hu
  rfl

/-- The string of bytes. -/
def str (l : List UInt8) : ByteArray := ⟨l.toArray⟩
theorem str_toList (l : List UInt8) : (str l).toList = l := by rw [ByteArray.toList_eq]; simp [str]
theorem str_inj {l m : List UInt8} (h : str l = str m) : l = m := by
  have := congrArg (fun s : ByteArray => s.data.toList) h
  simpa [str] using this
theorem str_size (l : List UInt8) : (str l).size = l.length := by simp [str, ByteArray.size]
/-- string(b) of a slice that reads as bytes. -/
theorem run_str {P : Program} {w : World} {src e dst : TypeId} (hs : P.underlying src = some (.slice e)) (he : P.underlying e = some (.int .u8)) (hd : P.underlying dst = some .string)
    {F : Nat → Prop} {A : Option Addr} {l : List UInt8} (c : Nat) (hr : Rd w F A (bc l)) : (convert src dst (.slice A l.length c)).run P w = .ok (.string (str l)) w := by
  have hm : ∀ m : List UInt8, m.map (fun c => UInt8.ofNat ((c.toNat : Int)).toNat) = m := by
    intro m
    induction m with
    | nil => rfl
    | cons x m ih => rw [List.map_cons, ih]; simp
  cases l with
  | nil =>
    cases A with
    | none => rw [List.length_nil, run_convert_bytes_nil w src e hs he 0 c dst hd]; rfl
    | some ad =>
      rw [run_convert_bytes_string w src dst e _ _ c hs he hd]
      have hl := run_loadCells_list (P := P) w ad [] (fun j v hj => by simp at hj)
      have h2 := run_bytesToString w ad 0 c [] (by simpa using hl)
      exact h2.trans rfl
  | cons x l =>
    obtain ⟨b, off, rfl, _, hc⟩ := hr.form (by simp)
    have := run_convert_bytes_arg (P := P) w src e hs he b off (x :: l).length c ((x :: l).map fun c => (c.toNat : Int)) (by simp) (fun i hi => by
      rw [hc i _ (bc_get (x :: l) i hi), List.getD, List.getElem?_map, List.getElem?_eq_getElem hi]; rfl) dst hd
    rw [this]
    unfold strOfNums str
    rw [List.map_map]
    have e2 : ((fun n : Int => UInt8.ofNat n.toNat) ∘ fun c : UInt8 => (c.toNat : Int)) = fun c => UInt8.ofNat ((c.toNat : Int)).toNat := rfl
    rw [e2, hm]

/-- A slice of slices of bytes reads as ls. -/
def RdL (w : World) (F : Nat → Prop) (A : Option Addr) (ls : List (List UInt8)) : Prop :=
  ∃ vs : List Value, vs.length = ls.length ∧ Rd w F A vs ∧ ∀ (i : Nat) (l : List UInt8), ls[i]? = some l → ∃ a c, vs[i]? = some (Value.slice a l.length c) ∧ Rd w F a (bc l) ∧ l.length ≤ c
section
variable {S F F' : Nat → Prop} {w w' : World} {A : Option Addr} {ls : List (List UInt8)}
theorem RdL.keep (h : RdL w F A ls) (hf : Fr S w w') (hd : ∀ k, k < w.heap.size → F k → ¬ S k) : RdL w' F A ls := by
  obtain ⟨vs, hl, hr, hi⟩ := h
  exact ⟨vs, hl, hr.keep hf hd, fun i l h => by obtain ⟨a, c, h1, h2, h3⟩ := hi i l h; exact ⟨a, c, h1, h2.keep hf hd, h3⟩⟩
theorem RdL.below (h : RdL w F A ls) (hb : Below w.heap.size w w') : RdL w' F A ls := h.keep (S := fun _ => False) (Fr.new hb) fun _ _ _ h => h
theorem RdL.belowB {B : Nat} (h : RdL w F A ls) (hb : Below B w w') (hF : ∀ k, F k → k < B) : RdL w' F A ls :=
  h.keep (S := fun k => B ≤ k) (Fr.of_below hb fun _ _ h => h) fun k _ hk => by have := hF k hk; omega
theorem RdL.mono (h : RdL w F A ls) (hF : ∀ k, k < w.heap.size → F k → F' k) : RdL w F' A ls := by
  obtain ⟨vs, hl, hr, hi⟩ := h
  exact ⟨vs, hl, hr.mono hF, fun i l h => by obtain ⟨a, c, h1, h2, h3⟩ := hi i l h; exact ⟨a, c, h1, h2.mono hF, h3⟩⟩
theorem rdl_one {w : World} {F : Nat → Prop} {a : Option Addr} {l : List UInt8} {c g : Nat} (t : TypeId) (hr : Rd w F a (bc l)) (hc : l.length ≤ c) (hg : g = w.heap.size) :
    RdL (w.alloc (.cells #[.slice a l.length c] t)) (fun k => F k ∨ k = w.heap.size) (some ⟨g, 0, none⟩) [l] := by
  subst hg
  refine ⟨[.slice a l.length c], rfl, (rd_one w _ t).mono fun k _ h => Or.inr h, fun i m h => ?_⟩
  cases i with
  | zero =>
    simp at h
    subst h
    exact ⟨a, c, rfl, (hr.alloc _).mono fun k _ h => Or.inl h, hc⟩
  | succ i => simp at h
theorem rdl_two {w : World} {F : Nat → Prop} {a b : Option Addr} {l m : List UInt8} {c d g : Nat} (t : TypeId) (hr : Rd w F a (bc l)) (hc : l.length ≤ c) (hs : Rd w F b (bc m)) (hd : m.length ≤ d) (hg : g = w.heap.size) :
    RdL (w.alloc (.cells #[.slice a l.length c, .slice b m.length d] t)) (fun k => F k ∨ k = w.heap.size) (some ⟨g, 0, none⟩) [l, m] := by
  subst hg
  refine ⟨[.slice a l.length c, .slice b m.length d], rfl, (rd_lit w #[.slice a l.length c, .slice b m.length d] t (0, 0)).mono fun k _ h => Or.inr h, fun i x h => ?_⟩
  match i, h with
  | 0, h =>
    simp at h
    subst h
    exact ⟨a, c, rfl, (hr.alloc _).mono fun k _ h => Or.inl h, hc⟩
  | 1, h =>
    simp at h
    subst h
    exact ⟨b, d, rfl, (hs.alloc _).mono fun k _ h => Or.inl h, hd⟩
  | i + 2, h => simp at h
theorem RdL.nil (w : World) (F : Nat → Prop) (A : Option Addr) : RdL w F A [] := ⟨[], rfl, Rd.nil _ _ _, fun i l h => by simp at h⟩
/-- Element i: its value, in memory. -/
theorem RdL.form (h : RdL w F A ls) (hn : 0 < ls.length) : ∃ b off, A = some ⟨b, off, none⟩ ∧ F b ∧ ∀ (i : Nat) (l : List UInt8), ls[i]? = some l → ∃ a c, w.cell? ⟨b, off + i, none⟩ = some (.slice a l.length c) ∧ Rd w F a (bc l) ∧ l.length ≤ c := by
  obtain ⟨vs, hl, hr, hi⟩ := h
  obtain ⟨b, off, e, hF, hc⟩ := hr.form (by omega)
  exact ⟨b, off, e, hF, fun i l h => by obtain ⟨a, c, h1, h2, h3⟩ := hi i l h; exact ⟨a, c, hc i _ h1, h2, h3⟩⟩
end

/-- The shape of an owned slice. -/
theorem own_shape {w : World} {base n size : Nat} {e : TypeId} {v : Value} {xs : List Value} (h : w.ownsRow base e size v n xs) :
    ∃ A c, v = .slice A n c ∧ n ≤ c ∧ (∀ g, v.ownBlock = some g → base ≤ g ∧ g < w.heap.size) ∧ (A = none → n = 0 ∧ c = 0) := by
  refine (fun hr => ?_) h.lt
  rcases h.2 with ⟨rfl, rfl⟩ | ⟨g, cap, cur, rfl, _, _, hn, _⟩
  · exact ⟨none, 0, rfl, Nat.le_refl _, hr, fun _ => ⟨rfl, rfl⟩⟩
  · exact ⟨_, cap, rfl, hn, hr, fun h => by cases h⟩

theorem own_below {w w' : World} {base : Nat} {e : TypeId} {size n : Nat} {v : Value} {xs : List Value} (h : w.ownsRow base e size v n xs) (hb : Below w.heap.size w w') : w'.ownsRow base e size v n xs :=
  h.kept (row := none) ⟨hb.os, hb.tape, hb.output, hb.size, fun k hk _ => hb.block k hk⟩ (by cases hv : v.ownBlock <;> simp)
/-- A block known whole. -/
def Blk (w : World) (g : Nat) (t : TypeId) (cs : Array Value) : Prop := w.heap[g]? = some (.cells cs t (0, 0))
section
variable {w w' : World} {g : Nat} {t : TypeId} {cs : Array Value} {S : Nat → Prop}
theorem Blk.lt (h : Blk w g t cs) : g < w.heap.size := by
  rcases Nat.lt_or_ge g w.heap.size with hlt | hge
  · exact hlt
  · unfold Blk at h; rw [Array.getElem?_eq_none hge] at h; cases h
theorem Blk.cell (h : Blk w g t cs) (i : Nat) : w.cell? ⟨g, i, none⟩ = cs[i]? := cell_of_row w g i cs t (0, 0) h
theorem Blk.frozen (h : Blk w g t cs) (i : Nat) : w.frozen? ⟨g, i, none⟩ = false := by unfold Blk at h; simp [World.frozen?, h]
theorem Blk.new (w : World) (t : TypeId) (cs : Array Value) : Blk (w.alloc (.cells cs t)) w.heap.size t cs := heap_alloc_new w _
theorem Blk.keep (h : Blk w g t cs) (hf : Fr S w w') (hn : ¬ S g) : Blk w' g t cs := (hf.block g h.lt hn).trans h
theorem Blk.below (h : Blk w g t cs) (hb : Below w.heap.size w w') : Blk w' g t cs := (hb.block g h.lt).trans h
theorem Blk.drew (h : Blk w g t cs) : Blk w.drew g t cs := h
theorem Blk.drewN (h : Blk w g t cs) (n : Nat) : Blk (w.drewN n) g t cs := h
theorem Blk.alloc (h : Blk w g t cs) (o : Obj) : Blk (w.alloc o) g t cs := (Below.heap_alloc w o g h.lt).trans h
theorem Blk.set_ (h : Blk w g t cs) (i : Nat) (u : Value) : Blk (w.setCell ⟨g, i, none⟩ u) g t (cs.setIfInBounds i u) := by
  unfold Blk at h ⊢
  simp [World.setCell, Array.getElem?_modify, h]
theorem Blk.far (h : Blk w g t cs) {p : Addr} (hp : g ≠ p.block) (u : Value) : Blk (w.setCell p u) g t cs := (Below.heap_setCell w p u g hp).trans h
theorem Blk.setRow (h : Blk w g t cs) (cs' : Array Value) : Blk (w.setRow g cs') g t cs' := setRow_heap w g cs cs' t (0, 0) h
theorem Blk.setRow_far (h : Blk w g t cs) {k : Nat} (hk : g ≠ k) (cs' : Array Value) : Blk (w.setRow k cs') g t cs := (setRow_other w k g cs' hk).trans h
theorem Blk.ne_ {g' : Nat} {t' : TypeId} {cs' : Array Value} (h : Blk w g t cs) (h' : Blk w g' t' cs') (hne : t ≠ t') : g ≠ g' := by
  rintro rfl
  unfold Blk at h h'
  rw [h] at h'
  injection h' with h'
  injection h' with _ ht
  exact hne ht
end

theorem below_setRow_own {B : Nat} {a w : World} (h : Below B a w) {g : Nat} (hg : B ≤ g) (cs : Array Value) : Below B a (w.setRow g cs) :=
  h.trans ⟨rfl, rfl, rfl, by simp, fun k hk => setRow_other w g k cs (by omega)⟩
section
variable {P : Program} (w : World)
/-- append of a slice that reads as a list (nil, empty or not) onto a row of the call's own. -/
theorem run_append_rd (base : Nat) (t ty e : TypeId) (i : TypeInfo) (z : Value) (bytes : Nat) (ht : P.underlying t = some (.slice e)) (hi : P.info? e = some i) (hz : i.zero = some z)
    (hsize : i.size = 1) (hby : i.bytes = bytes) (hzs : z.cells.size = 1)
    (v : Value) (n : Nat) (xs : List Value) (hown : w.ownsRow base e 1 v n xs)
    (F : Nat → Prop) (A : Option Addr) (c : Nat) (news : List Value) (hr : Rd w F A news) (h1 : ∀ u ∈ news, u.oneCell' = true)
    (h63 : n + news.length ≤ maxLen) (hbytes : (n + news.length) * bytes ≤ 140737488355328) (hbase : base ≤ w.heap.size) :
    ∃ v' w', (Builtin.append_ #[t, t] ty #[v, .slice A news.length c]).run P w = .ok v' w' ∧ w'.ownsRow base e 1 v' (n + news.length) (xs ++ news) ∧ w.grownBy w' v.ownBlock ∧
      (v'.ownBlock = v.ownBlock ∨ v'.ownBlock = some w.heap.size) := by
  rcases A with _ | ad
  · have hn : news = [] := by
      cases news with
      | nil => rfl
      | cons x l => obtain ⟨ad, h, _⟩ := hr 0 x rfl; cases h
    subst hn
    refine ⟨v, w, ?_, by simpa using hown, World.grownBy.refl w _, .inl rfl⟩
    rcases hown.2 with ⟨rfl, rfl⟩ | ⟨g, cap, cur, rfl, _, _, hnc, _⟩
    · simp [Builtin.append_, run_underlying ht, sizeOf, typeInfo, hi, Builtin.lenOf, Builtin.firstCells]
    · simp [Builtin.append_, run_underlying ht, sizeOf, typeInfo, hi, Builtin.lenOf, Builtin.firstCells, hnc, storeCells]
  · have hcells : ∀ j u, news[j]? = some u → w.cell? (ad.add j) = some u := by
      intro j u hu
      obtain ⟨ad', h, _, hc⟩ := hr j u hu
      injection h with h
      subst h
      exact hc
    obtain ⟨v', w', hrun, h2, h3, _, h5⟩ := run_append_own_at (P := P) w base t ty e i z 1 bytes ht hi hz hsize hby hzs (by omega) v n xs hown ad news.length c news (by omega) hcells h1 h63 hbytes hbase
    exact ⟨v', w', hrun, h2, h3, h5⟩

theorem wp_append_rd {o : Oper} {a : Act} {K : Act → World → Prop} {Q : Exit → Act → World → Prop} (s x : Operand) (t : TypeId)
    (ho : o.op = .call { callee := .builtin .append, args := #[s, x], argTypes := #[t, t] })
    (base : Nat) (e : TypeId) (i : TypeInfo) (z : Value) (bytes : Nat) (ht : P.underlying t = some (.slice e)) (hi : P.info? e = some i) (hz : i.zero = some z)
    (hsize : i.size = 1) (hby : i.bytes = bytes) (hzs : z.cells.size = 1)
    (v : Value) (n : Nat) (xs : List Value) (hs : a.eval s = v) (hown : w.ownsRow base e 1 v n xs)
    (F : Nat → Prop) (A : Option Addr) (m c : Nat) (news : List Value) (hx : a.eval x = .slice A m c) (hm : m = news.length) (hr : Rd w F A news) (h1 : ∀ u ∈ news, u.oneCell' = true)
    (h63 : n + news.length ≤ maxLen) (hbytes : (n + news.length) * bytes ≤ 140737488355328) (hbase : base ≤ w.heap.size)
    (h : ∀ v' w', w'.ownsRow base e 1 v' (n + news.length) (xs ++ news) → w.grownBy w' v.ownBlock → (v'.ownBlock = v.ownBlock ∨ v'.ownBlock = some w.heap.size) → K (a.put o.dst v') w') : o.wp P a w K Q := by
  subst hm
  obtain ⟨v', w', hrun, h2, h3, h4⟩ := run_append_rd (P := P) w base t o.type e i z bytes ht hi hz hsize hby hzs v n xs hown F A c news hr h1 h63 hbytes hbase
  unfold Oper.wp execOp
  simp only [ho, resolve, invoke, builtin, Sem.run_bind, Sem.run_pure, Result.andThen_ok, List.map_toArray, List.map_cons, List.map_nil, hs, hx, hrun]
  exact h v' w' h2 h3 h4

theorem wpList_append_rd {ops : Array Oper} {rest : List Oper} {o : Oper} {a : Act} {Q : Exit → Act → World → Prop} (hgd : o.guard = none) (s x : Operand) (t : TypeId)
    (ho : o.op = .call { callee := .builtin .append, args := #[s, x], argTypes := #[t, t] })
    (base : Nat) (e : TypeId) (i : TypeInfo) (z : Value) (bytes : Nat) (ht : P.underlying t = some (.slice e)) (hi : P.info? e = some i) (hz : i.zero = some z)
    (hsize : i.size = 1) (hby : i.bytes = bytes) (hzs : z.cells.size = 1)
    (v : Value) (n : Nat) (xs : List Value) (hs : a.eval s = v) (hown : w.ownsRow base e 1 v n xs)
    (F : Nat → Prop) (A : Option Addr) (m c : Nat) (news : List Value) (hx : a.eval x = .slice A m c) (hm : m = news.length) (hr : Rd w F A news) (h1 : ∀ u ∈ news, u.oneCell' = true)
    (h63 : n + news.length ≤ maxLen) (hbytes : (n + news.length) * bytes ≤ 140737488355328) (hbase : base ≤ w.heap.size)
    (h : ∀ v' w', w'.ownsRow base e 1 v' (n + news.length) (xs ++ news) → w.grownBy w' v.ownBlock → (v'.ownBlock = v.ownBlock ∨ v'.ownBlock = some w.heap.size) → wpList P ops Q rest (a.put o.dst v') w') : wpList P ops Q (o :: rest) a w :=
  wpList_plain hgd fun _ hK => wp_append_rd w s x t ho base e i z bytes ht hi hz hsize hby hzs v n xs hs hown F A m c news hx hm hr h1 h63 hbytes hbase fun v' w' h2 h3 h4 => hK _ _ (h v' w' h2 h3 h4)
end
/-- Only new memory: what was there is as it was. -/
def NewMem (w w' : World) : Prop := Below w.heap.size w w'
theorem NewMem.refl (w : World) : NewMem w w := Below.refl _ _
theorem NewMem.trans (a b c : World) (h : NewMem a b) (k : NewMem b c) : NewMem a c := Below.trans h (Below.mono k h.size)
theorem NewMem.alloc (w : World) (o : Obj) : NewMem w (w.alloc o) := (Below.refl _ _).alloc (Nat.le_refl _) o
end Go.Proofs.YtbhaekdfpfncnaaDoor
