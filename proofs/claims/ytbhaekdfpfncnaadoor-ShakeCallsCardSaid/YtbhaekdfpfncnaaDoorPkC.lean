/- packet.Check. -/
import Derived.Test.YtbhaekdfpfncnaaDoorPkt
import Derived.Laws.EntriesVeiled
namespace Go.Proofs.YtbhaekdfpfncnaaDoor
set_option linter.unusedVariables false
set_option linter.unusedSimpArgs false
open Go.RowKit

def ints (l : List Int) : List Value := l.map fun n => .int .i64 n
theorem ints_get (l : List Int) (j : Nat) (h : j < l.length) : (ints l)[j]? = some (.int .i64 l[j]) := by simp [ints, h]
/-- What a kind has. -/
def hasL (k : Int) : List Int := if k = 1 then [0, 4] else if k = 2 then [1, 2, 4] else if k = 3 then [1, 2, 3, 5] else if k = 4 then [1] else []
def mayB (p : PK) : Nat → Bool
  | 0 => decide (1 ≤ p.peer) && decide (p.peer ≤ 65536)
  | 1 => decide (1 ≤ p.ses)
  | 2 => decide (1 ≤ p.ep)
  | 3 => decide (1 ≤ p.cnt) && decide (p.cnt ≤ 1152921504606846976)
  | 4 => true
  | _ => decide (16 ≤ p.bl.length) && decide (p.bl.length ≤ 65552)
def zeroB (p : PK) : Nat → Bool
  | 0 => p.peer == 0
  | 1 => p.ses == 0
  | 2 => p.ep == 0
  | 3 => p.cnt == 0
  | 4 => decide (p.rnd = List.replicate 16 0) && decide (p.mrk = List.replicate 16 0)
  | _ => p.bl.length == 0
def partB (p : PK) (n : Nat) : Bool := if (hasL p.kind).contains (n : Int) then mayB p n else zeroB p n
def chkB (p : PK) : Bool := decide (hasL p.kind ≠ []) && (List.range 6).all (partB p)

def HasP (k : Int) (w : World) (e : Ending) (w' : World) : Prop := (hasL k = [] ∧ e = .returned (.slice none 0 0) ∧ w = w') ∨ (∃ A c, hasL k ≠ [] ∧ e = .returned (.slice (some A) (hasL k).length c) ∧ Rd w' (fun j => w.heap.size ≤ j) (some A) (ints (hasL k)) ∧ NewMem w w')
theorem has_calls (k : Int) (w : World) : Calls Tryd.prog 35 #[.int .i64 k] w (HasP k w) := by
  by_cases h1 : k = 1
  · subst h1
    go_enter Tryd.func35, Tryd.ntmps35
    go_wp2
    go_ret
    exact Or.inr ⟨⟨w.heap.size, 0, none⟩, 2, by decide, rfl, (rd_lit w _ _ (0, 0)).mono fun k _ h => by omega, NewMem.alloc _ _⟩
  · by_cases h2 : k = 2
    · subst h2
      go_enter Tryd.func35, Tryd.ntmps35
      go_wp2
      go_ret
      exact Or.inr ⟨⟨w.heap.size, 0, none⟩, 3, by decide, rfl, (rd_lit w _ _ (0, 0)).mono fun k _ h => by omega, NewMem.alloc _ _⟩
    · by_cases h3 : k = 3
      · subst h3
        go_enter Tryd.func35, Tryd.ntmps35
        go_wp2
        go_ret
        exact Or.inr ⟨⟨w.heap.size, 0, none⟩, 4, by decide, rfl, (rd_lit w _ _ (0, 0)).mono fun k _ h => by omega, NewMem.alloc _ _⟩
      · by_cases h4 : k = 4
        · subst h4
          go_enter Tryd.func35, Tryd.ntmps35
          go_wp2
          go_ret
          exact Or.inr ⟨⟨w.heap.size, 0, none⟩, 1, by decide, rfl, (rd_lit w _ _ (0, 0)).mono fun k _ h => by omega, NewMem.alloc _ _⟩
        · have hn : hasL k = [] := by unfold hasL; rw [if_neg h1, if_neg h2, if_neg h3, if_neg h4]
          have HN := fun _ : Unit => hn
          clear hn
          have b1 : (k == 1) = false := by simpa using h1
          have b2 : (k == 2) = false := by simpa using h2
          have b3 : (k == 3) = false := by simpa using h3
          have b4 : (k == 4) = false := by simpa using h4
          go_enter Tryd.func35, Tryd.ntmps35
          go_wp2
          go_ret
          exact Or.inl ⟨HN (), rfl, rfl⟩

def IdxP (l : List Int) (n : Int) (w : World) (e : Ending) (w' : World) : Prop := (∃ m : Int, e = .returned (.int .i64 m) ∧ decide (0 ≤ m) = l.contains n) ∧ w = w'
theorem index_calls (A : Option Addr) (l : List Int) (c : Nat) (n : Int) (w : World) (F : Nat → Prop) (hr : Rd w F A (ints l)) (hl : l.length ≤ 1000) :
    Calls Tryd.prog 76 #[.slice A l.length c, .int .i64 n] w (IdxP l n w) := by
  have HR := Lib.hid hr
  clear hr
  go_enter Tryd.func76, Tryd.ntmps76
  go_wp2
  go_loop [5, 8] (fun x i => ∃ k : Nat, k ≤ l.length ∧ i = .int .i64 k ∧ Hid (∀ j (h : j < l.length), j < k → l[j] ≠ n)) (fun _ i => l.length - (intOf i).toNat)
  case atStart => exact ⟨0, by omega, rfl, fun j h h2 => by omega⟩
  case round =>
    obtain ⟨k, hk, rfl, hall⟩ := hrel
    by_cases hlt : k < l.length
    · obtain ⟨b, off, rfl, _, hc⟩ := HR.out.form (by simpa [ints] using by omega)
      have hck := hc k _ (ints_get l k hlt)
      obtain ⟨y, hy⟩ : ∃ y, y = l[k] := ⟨_, rfl⟩
      rw [← hy] at hck
      have HY := fun _ : Unit => hy
      clear hc hy
      by_cases he : n = y
      · have hm : l.contains n = true := by
          rw [List.contains_iff_mem, he, HY ()]
          exact List.getElem_mem _
        have HM := fun _ : Unit => hm
        have hb : (n == y) = true := by simpa using he
        clear he hm
        go_wp2
        go_ret
        exact ⟨⟨k, rfl, by rw [HM ()]; simp⟩, rfl⟩
      · have hb : (n == y) = false := by simpa using he
        go_wp2
        go_round
        case rel =>
          refine ⟨k + 1, by omega, by go_num, fun j h h2 => ?_⟩
          rcases Nat.lt_or_ge j k with h3 | h3
          · exact hall.out j h h3
          · have : j = k := by omega
            subst this
            rw [← HY ()]
            exact fun e => he e.symm
        case measure => simp [intOf]; omega
    · have hkl : k = l.length := by omega
      subst hkl
      have hm : l.contains n = false := by
        rw [Bool.eq_false_iff]
        intro h
        rw [List.contains_iff_mem] at h
        obtain ⟨j, hj, e⟩ := List.mem_iff_getElem.1 h
        exact hall.out j hj hj e
      have HM := fun _ : Unit => hm
      clear hm hall
      go_wp2
      go_ret
      exact ⟨⟨-1, rfl, by rw [HM ()]; rfl⟩, rfl⟩
theorem contains_calls (A : Option Addr) (l : List Int) (c : Nat) (n : Int) (w : World) (F : Nat → Prop) (hr : Rd w F A (ints l)) (hl : l.length ≤ 1000) :
    Calls Tryd.prog 37 #[.slice A l.length c, .int .i64 n] w fun e w' => e = .returned (.bool (l.contains n)) ∧ w = w' := by
  have HR := Lib.hid hr
  clear hr
  go_enter Tryd.func37, Tryd.ntmps37
  go_wp2_with fail
  refine (index_calls A l c n w F HR.out hl).mono ?_
  rintro e w' ⟨⟨m, rfl, hm⟩, rfl⟩
  have HM := fun _ : Unit => hm
  clear hm
  go_wp2
  go_ret
  exact ⟨by rw [← HM ()]; rfl, rfl⟩

def fnV (f : Nat) : Value := .func (.func f) #[] #[]
/-- A function of the program's own. -/
def Enters (f : Nat) : Prop := ∀ (args : Array Value) (W : World), (callFunc f args).run Tryd.prog W = .ok (.enter f args) W
def OfP (p : PK) (n : Nat) (w : World) (e : Ending) (w' : World) : Prop := ∃ f g h k : Nat, e = .returned (.agg #[fnV f, fnV g, fnV h, fnV k]) ∧ Below w.heap.size w w' ∧
    (∀ W, Calls Tryd.prog f #[.agg p.X] W (Says W (mayB p n))) ∧ (∀ W, Calls Tryd.prog g #[.agg p.X] W (Says W (zeroB p n))) ∧ Enters f ∧ Enters g
theorem ent1 : Enters 45 := fun args W => by kernel_rfl
theorem ent2 : Enters 46 := fun args W => by kernel_rfl
theorem ent5 : Enters 51 := fun args W => by kernel_rfl
theorem ent6 : Enters 52 := fun args W => by kernel_rfl
theorem ent9 : Enters 56 := fun args W => by kernel_rfl
theorem ent10 : Enters 57 := fun args W => by kernel_rfl
theorem ent13 : Enters 60 := fun args W => by kernel_rfl
theorem ent14 : Enters 61 := fun args W => by kernel_rfl
theorem ent17 : Enters 64 := fun args W => by kernel_rfl
theorem ent18 : Enters 65 := fun args W => by kernel_rfl
theorem ent21 : Enters 69 := fun args W => by kernel_rfl
theorem ent22 : Enters 71 := fun args W => by kernel_rfl
theorem of_calls0 (p : PK) (hp : p.ok) (w : World) : Calls Tryd.prog 36 #[.int .i64 0] w (OfP p 0 w) := by
  have hbl := hp.bl
  have hcap := hp.cap
  go_enter Tryd.func36, Tryd.ntmps36
  go_wp2
  refine bodyPost_ret (results_cell_row rfl _ _ w.heap.size _ _ (0, 0) _ rfl (Blk.new _ _ _) Tryd.underlying61 rfl (by kernel_rfl)) rfl ?_
  exact ⟨_, _, _, _, rfl, (Below.refl _ _).alloc (Nat.le_refl _) _, fun W => of1 _ _ p.x1 W, fun W => of2 _ _ p.x1 W, ent1, ent2⟩
theorem of_calls1 (p : PK) (hp : p.ok) (w : World) : Calls Tryd.prog 36 #[.int .i64 1] w (OfP p 1 w) := by
  have hbl := hp.bl
  have hcap := hp.cap
  go_enter Tryd.func36, Tryd.ntmps36
  go_wp2
  refine bodyPost_ret (results_cell_row rfl _ _ w.heap.size _ _ (0, 0) _ rfl (Blk.new _ _ _) Tryd.underlying61 rfl (by kernel_rfl)) rfl ?_
  exact ⟨_, _, _, _, rfl, (Below.refl _ _).alloc (Nat.le_refl _) _, fun W => of5 _ _ p.x2 W, fun W => of6 _ _ p.x2 W, ent5, ent6⟩
theorem of_calls2 (p : PK) (hp : p.ok) (w : World) : Calls Tryd.prog 36 #[.int .i64 2] w (OfP p 2 w) := by
  have hbl := hp.bl
  have hcap := hp.cap
  go_enter Tryd.func36, Tryd.ntmps36
  go_wp2
  refine bodyPost_ret (results_cell_row rfl _ _ w.heap.size _ _ (0, 0) _ rfl (Blk.new _ _ _) Tryd.underlying61 rfl (by kernel_rfl)) rfl ?_
  exact ⟨_, _, _, _, rfl, (Below.refl _ _).alloc (Nat.le_refl _) _, fun W => of9 _ _ p.x3 W, fun W => of10 _ _ p.x3 W, ent9, ent10⟩
theorem of_calls3 (p : PK) (hp : p.ok) (w : World) : Calls Tryd.prog 36 #[.int .i64 3] w (OfP p 3 w) := by
  have hbl := hp.bl
  have hcap := hp.cap
  go_enter Tryd.func36, Tryd.ntmps36
  go_wp2
  refine bodyPost_ret (results_cell_row rfl _ _ w.heap.size _ _ (0, 0) _ rfl (Blk.new _ _ _) Tryd.underlying61 rfl (by kernel_rfl)) rfl ?_
  exact ⟨_, _, _, _, rfl, (Below.refl _ _).alloc (Nat.le_refl _) _, fun W => of13 _ _ p.x4 W, fun W => of14 _ _ p.x4 W, ent13, ent14⟩
theorem of_calls4 (p : PK) (hp : p.ok) (w : World) : Calls Tryd.prog 36 #[.int .i64 4] w (OfP p 4 w) := by
  have hbl := hp.bl
  have hcap := hp.cap
  go_enter Tryd.func36, Tryd.ntmps36
  go_wp2
  refine bodyPost_ret (results_cell_row rfl _ _ w.heap.size _ _ (0, 0) _ rfl (Blk.new _ _ _) Tryd.underlying61 rfl (by kernel_rfl)) rfl ?_
  exact ⟨_, _, _, _, rfl, (Below.refl _ _).alloc (Nat.le_refl _) _, fun W => of17 _ W, fun W => of18 p hp W, ent17, ent18⟩
theorem of_calls5 (p : PK) (hp : p.ok) (w : World) : Calls Tryd.prog 36 #[.int .i64 5] w (OfP p 5 w) := by
  have hbl := hp.bl
  have hcap := hp.cap
  go_enter Tryd.func36, Tryd.ntmps36
  go_wp2
  refine bodyPost_ret (results_cell_row rfl _ _ w.heap.size _ _ (0, 0) _ rfl (Blk.new _ _ _) Tryd.underlying61 rfl (by kernel_rfl)) rfl ?_
  exact ⟨_, _, _, _, rfl, (Below.refl _ _).alloc (Nat.le_refl _) _, fun W => of21 _ _ _ _ (PK.xb hp) (by omega) W, fun W => of22 _ _ _ _ (PK.xb hp) W, ent21, ent22⟩
theorem of_calls (p : PK) (hp : p.ok) (n : Nat) (hn : n < 6) (w : World) : Calls Tryd.prog 36 #[.int .i64 (n : Int)] w (OfP p n w) := by
  match n, hn with
  | 0, _ => exact of_calls0 p hp w
  | 1, _ => exact of_calls1 p hp w
  | 2, _ => exact of_calls2 p hp w
  | 3, _ => exact of_calls3 p hp w
  | 4, _ => exact of_calls4 p hp w
  | 5, _ => exact of_calls5 p hp w
end Go.Proofs.YtbhaekdfpfncnaaDoor
