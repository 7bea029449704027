/- ShakeBoth's plain side: marks turned by a mask. No program. -/
import Derived.Test.YtbhaekdfpfncnaaDoorPkEq
import Derived.Laws.BitsAllLaws
import Derived.Test.YtbhaekdfpfncnaaDoorRegionG
namespace Go.Proofs.YtbhaekdfpfncnaaDoor
set_option linter.unusedVariables false
set_option linter.unusedSimpArgs false
open Go.RowKit

/-- Each byte turned by its mask. -/
def flipB : List UInt8 → List UInt8 → List UInt8
  | x :: xs, y :: ys => (x ^^^ y) :: flipB xs ys
  | _, _ => []
theorem flipB_length : ∀ (xs ys : List UInt8), xs.length = ys.length → (flipB xs ys).length = xs.length
  | [], [], _ => rfl
  | x :: xs, y :: ys, h => by simp [flipB, flipB_length xs ys (by simpa using h)]
theorem xor_eq (x y : UInt8) (h : x ^^^ y = x) : y = 0 := by
  have h2 : x ^^^ (x ^^^ y) = x ^^^ x := by rw [h]
  rwa [← UInt8.xor_assoc, UInt8.xor_self, UInt8.zero_xor] at h2
theorem flipB_eq : ∀ (xs ys : List UInt8), xs.length = ys.length → flipB xs ys = xs → ys = List.replicate ys.length 0
  | [], [], _, _ => rfl
  | x :: xs, y :: ys, h, e => by
    simp only [flipB, List.cons.injEq] at e
    have h1 := xor_eq x y e.1
    have h2 := flipB_eq xs ys (by simpa using h) e.2
    rw [List.length_cons, List.replicate_succ, ← h2, h1]
/-- The same packet with another mark. -/
theorem chN_flip (key : List UInt8) (n : Int) (rnd m : List UInt8) (hn : (decide (1 ≤ n) && decide (n ≤ 65536)) = true) (hm : m ≠ helF key n rnd) : chN key (hPK n rnd m) = 12 := by
  unfold chN
  rw [chk_h, hn, if_pos rfl, if_pos (show (hPK n rnd m).kind = 1 from rfl), if_neg (show ¬ (hPK n rnd m).mrk = helF key (hPK n rnd m).peer (hPK n rnd m).rnd from hm)]
theorem anN_flip (key : List UInt8) (n : Int) (rnd m : List UInt8) (hn : (decide (1 ≤ n) && decide (n ≤ 65536)) = true) (hm : m ≠ helF key n rnd) (ses ep : Nat) (rb : List UInt8) : anN key (hPK n rnd m) ses ep rb = 12 := by
  unfold anN
  rw [chN_flip key n rnd m hn hm]
  rfl
section
variable (key ra rb : List UInt8) (n : Int) (ses ep : Nat)
def boH : PK := hPK n ra (helF key n ra)
def boA : PK := aPK ses ep rb (ansF key (boH key ra n) (aPK ses ep rb Z16))
def boS : List UInt8 := hkey (ra ++ rb) key (tSec ++ be 8 ses)
def okN (n : Int) : Bool := decide (1 ≤ n) && decide (n ≤ 65536)
theorem boS_length : (boS key ra rb ses).length = 32 := hkey_length _ _ _
theorem bo_helE : helE n ra = resN (okN n) := by unfold helE; rw [chk_h]; rfl
theorem bo_helP (hn : okN n = true) : helP key n ra = boH key ra n := by
  unfold helP
  rw [chk_h, show (decide (1 ≤ n) && decide (n ≤ 65536)) = true from hn, if_pos rfl]
  rfl
theorem bo_ch (hn : okN n = true) : chN key (boH key ra n) = 0 := by
  unfold boH
  rw [chN_hel, show (decide (1 ≤ n) && decide (n ≤ 65536)) = true from hn]
  rfl
theorem bo_anN (hn : okN n = true) : anN key (boH key ra n) ses ep rb = resN (decide (1 ≤ ses) && decide (1 ≤ ep)) := by
  unfold anN
  rw [bo_ch _ _ _ hn, if_pos rfl, chk_a]
  rfl
theorem bo_anP (hn : okN n = true) (hs : 0 < ses) (he : 0 < ep) : anP key (boH key ra n) ses ep rb = boA key ra rb n ses ep := by
  unfold anP
  rw [bo_anN _ _ _ _ _ _ hn, decide_eq_true (show 1 ≤ ses from hs), decide_eq_true (show 1 ≤ ep from he)]
  rfl
theorem bo_anS (hn : okN n = true) (hs : 0 < ses) (he : 0 < ep) : anS key (boH key ra n) ses ep rb = boS key ra rb ses := by
  unfold anS
  rw [bo_anN _ _ _ _ _ _ hn, decide_eq_true (show 1 ≤ ses from hs), decide_eq_true (show 1 ≤ ep from he), Bool.true_and, resN, if_pos rfl, if_pos rfl]
  simp only [secF, boS, boH, aPK, hPK]
theorem bo_anS0 (hn : okN n = true) (h : (decide (1 ≤ ses) && decide (1 ≤ ep)) = false) : anS key (boH key ra n) ses ep rb = Z32 := by
  unfold anS
  rw [bo_anN _ _ _ _ _ _ hn, h]
  rfl
theorem bo_caN (hn : okN n = true) (hs : 0 < ses) (he : 0 < ep) (m : List UInt8) : caN key (boH key ra n) (aPK ses ep rb m) = if m = ansF key (boH key ra n) (aPK ses ep rb Z16) then 0 else 12 := by
  unfold caN
  rw [bo_ch _ _ _ hn, if_pos rfl, chk_a, decide_eq_true (show 1 ≤ ses from hs), decide_eq_true (show 1 ≤ ep from he), Bool.true_and, if_pos rfl, if_pos (show (aPK ses ep rb m).kind = 2 from rfl)]
  rfl
theorem bo_caA (hn : okN n = true) (hs : 0 < ses) (he : 0 < ep) : caN key (boH key ra n) (boA key ra rb n ses ep) = 0 := by
  unfold boA
  rw [bo_caN _ _ _ _ _ _ hn hs he, if_pos rfl]
theorem bo_caSA (hn : okN n = true) (hs : 0 < ses) (he : 0 < ep) : caS key (boH key ra n) (boA key ra rb n ses ep) = boS key ra rb ses := by
  unfold caS
  rw [bo_caA _ _ _ _ _ _ hn hs he, if_pos rfl]
  simp only [secF, boS, boH, boA, aPK, hPK]
theorem bo_sec : secF key (boH key ra n) (boA key ra rb n ses ep) = boS key ra rb ses := by
  simp only [secF, boS, boH, boA, aPK, hPK]
theorem flipB_ne (m c : List UInt8) (hm : m.length = 16) (hc : c.length = 16) (h : c ≠ Z16) : flipB m c ≠ m := fun e => h (by rw [flipB_eq m c (by omega) e, hc]; rfl)
theorem bo_caF (hn : okN n = true) (hs : 0 < ses) (he : 0 < ep) (c : List UInt8) (hc : c.length = 16) (hz : c ≠ Z16) : caN key (boH key ra n) (aPK ses ep rb (flipB (ansF key (boH key ra n) (aPK ses ep rb Z16)) c)) = 12 := by
  rw [bo_caN _ _ _ _ _ _ hn hs he, if_neg (flipB_ne _ _ (ansF_length _ _ _) hc hz)]
theorem bo_caSF (hn : okN n = true) (hs : 0 < ses) (he : 0 < ep) (c : List UInt8) (hc : c.length = 16) (hz : c ≠ Z16) : caS key (boH key ra n) (aPK ses ep rb (flipB (ansF key (boH key ra n) (aPK ses ep rb Z16)) c)) = Z32 := by
  unfold caS
  rw [bo_caF _ _ _ _ _ _ hn hs he c hc hz]
  rfl
theorem bo_anF (hn : okN n = true) (c : List UInt8) (hc : c.length = 16) (hz : c ≠ Z16) : anN key (hPK n ra (flipB (helF key n ra) c)) ses ep rb = 12 :=
  anN_flip key n ra _ hn (flipB_ne _ _ (helF_length _ _ _) hc hz) ses ep rb
theorem bo_anPF (hn : okN n = true) (c : List UInt8) (hc : c.length = 16) (hz : c ≠ Z16) : anP key (hPK n ra (flipB (helF key n ra) c)) ses ep rb = zPK := by
  unfold anP
  rw [bo_anF _ _ _ _ _ _ hn c hc hz]
  rfl
theorem bo_anSF (hn : okN n = true) (c : List UInt8) (hc : c.length = 16) (hz : c ≠ Z16) : anS key (hPK n ra (flipB (helF key n ra) c)) ses ep rb = Z32 := by
  unfold anS
  rw [bo_anF _ _ _ _ _ _ hn c hc hz]
  rfl
theorem bo_chF (hn : okN n = true) (c : List UInt8) (hc : c.length = 16) (hz : c ≠ Z16) : chN key (hPK n ra (flipB (helF key n ra) c)) = 12 :=
  chN_flip key n ra _ hn (flipB_ne _ _ (helF_length _ _ _) hc hz)
end
/-- The first k bytes turned. -/
def flipK (m c : List UInt8) : Nat → List UInt8
  | 0 => m
  | k + 1 => (flipK m c k).set k (m.getD k 0 ^^^ c.getD k 0)
theorem flipK_length (m c : List UInt8) : ∀ k, (flipK m c k).length = m.length
  | 0 => rfl
  | k + 1 => by rw [flipK, List.length_set, flipK_length m c k]
theorem flipK_get (m c : List UInt8) : ∀ (k j : Nat), k ≤ j → (flipK m c k)[j]? = m[j]?
  | 0, j, _ => rfl
  | k + 1, j, h => by rw [flipK, List.getElem?_set_ne (by omega), flipK_get m c k j (by omega)]
theorem flipK_all (m c : List UInt8) (hm : m.length = 16) (hc : c.length = 16) : flipK m c 16 = flipB m c := by
  obtain ⟨a0, a1, a2, a3, a4, a5, a6, a7, a8, a9, a10, a11, a12, a13, a14, a15, rfl⟩ := list16 m hm
  obtain ⟨b0, b1, b2, b3, b4, b5, b6, b7, b8, b9, b10, b11, b12, b13, b14, b15, rfl⟩ := list16 c hc
  rfl
theorem PK.X_set {p : PK} (h : p.ok) (k : Nat) (hk : k < 16) (b : UInt8) : p.X.setIfInBounds (21 + k) (.int .u8 (b.toNat : Int)) = ({ p with mrk := p.mrk.set k b } : PK).X := by
  have hr := h.rnd
  have hm := h.mrk
  unfold PK.X PK.L
  rw [List.setIfInBounds_toArray]
  congr 1
  rw [List.set_append_right _ _ (by simp; omega), List.set_append_right _ _ (by simp; omega), List.set_append_left _ _ (by simp; omega)]
  congr 2
  show (bc p.mrk).set _ _ ++ _ = bc (p.mrk.set k b) ++ _
  rw [show 21 + k - [Value.int IntKind.i64 p.kind, Value.int IntKind.i64 p.peer, Value.int IntKind.u64 (p.ses : Int), Value.int IntKind.u32 (p.ep : Int), Value.int IntKind.u64 (p.cnt : Int)].length - (bc p.rnd).length = k from by simp; omega]
  simp only [bc, List.map_set]
theorem xor_u8 (x y : UInt8) : bits .xor .u8 (x.toNat : Int) (y.toNat : Int) = ((x ^^^ y).toNat : Int) := by
  rw [u8_xor_nat _ _ x.toNat_lt y.toNat_lt, UInt8.toNat_xor]

/-- The packet with the first k bytes of its mark turned. -/
def xK (p : PK) (c : List UInt8) (k : Nat) : Array Value := ({ p with mrk := flipK p.mrk c k } : PK).X
theorem xK_ok {p : PK} (h : p.ok) (c : List UInt8) (k : Nat) : ({ p with mrk := flipK p.mrk c k } : PK).ok :=
  ⟨h.kind, h.peer, h.ses, h.ep, h.cnt, h.rnd, by show (flipK p.mrk c k).length = 16; rw [flipK_length]; exact h.mrk, h.bl, h.cap⟩
theorem xK_size {p : PK} (h : p.ok) (c : List UInt8) (k : Nat) : (xK p c k).size = 38 := PK.size (xK_ok h c k)
theorem xK_zero (p : PK) (c : List UInt8) : xK p c 0 = p.X := rfl
theorem xK_set {p : PK} (h : p.ok) (c : List UInt8) (k : Nat) (hk : k < 16) : (xK p c k).setIfInBounds (21 + k) (.int .u8 ((p.mrk.getD k 0 ^^^ c.getD k 0).toNat : Int)) = xK p c (k + 1) :=
  PK.X_set (xK_ok h c k) k hk _
theorem xK_get {p : PK} (h : p.ok) (c : List UInt8) (k : Nat) (hk : k < 16) : (xK p c k)[21 + k]? = some (.int .u8 ((p.mrk.getD k 0).toNat : Int)) := by
  have hl := h.mrk
  refine PK.xm (xK_ok h c k) k _ ?_
  show (bc (flipK p.mrk c k))[k]? = _
  rw [bc, List.getElem?_map, flipK_get _ _ _ _ (Nat.le_refl k), List.getElem?_eq_getElem (by omega)]
  simp [List.getD, List.getElem?_eq_getElem (show k < p.mrk.length by omega)]
theorem xK_all {p : PK} (h : p.ok) (c : List UInt8) (hc : c.length = 16) : xK p c 16 = ({ p with mrk := flipB p.mrk c } : PK).X := by
  unfold xK
  rw [flipK_all _ _ h.mrk hc]
/-- Two new variables, each a copy. -/
def cpT (base : Nat) (w : World) (γ : Nat × Nat) (w' : World) (γ' : Nat × Nat) : Prop := Below base w w' ∧ (γ.1 ≠ 0 → γ'.1 = γ.1) ∧ (γ.2 ≠ 0 → γ'.2 = γ.2)
theorem cpT_refl (base : Nat) (w : World) (γ : Nat × Nat) : cpT base w γ w γ := ⟨Below.refl _ _, fun _ => rfl, fun _ => rfl⟩
theorem cpT_trans (base : Nat) (a : World) (α : Nat × Nat) (b : World) (β : Nat × Nat) (c : World) (δ : Nat × Nat) (h : cpT base a α b β) (k : cpT base b β c δ) : cpT base a α c δ :=
  ⟨h.1.trans k.1, fun e => by rw [k.2.1 (by rw [h.2.1 e]; exact e), h.2.1 e], fun e => by rw [k.2.2 (by rw [h.2.2 e]; exact e), h.2.2 e]⟩
structure cpJ (base : Nat) (t : TypeId) (z X Y : Array Value) (dn : Nat → Bool) (w : World) (γ : Nat × Nat) : Prop where
  a1 : dn 4 = true → dn 2 = true
  a2 : dn 5 = true → dn 3 = true
  n1 : dn 2 = false → γ.1 = 0
  n2 : dn 3 = false → γ.2 = 0
  b1 : dn 2 = true → base ≤ γ.1 ∧ Blk w γ.1 t (if dn 4 then X else z)
  b2 : dn 3 = true → base ≤ γ.2 ∧ Blk w γ.2 t (if dn 5 then Y else z)
  ne : dn 2 = true → dn 3 = true → γ.1 ≠ γ.2
section
variable {base : Nat} {t : TypeId} {z X Y : Array Value} {dn : Nat → Bool} {w : World} {γ : Nat × Nat}
theorem cpJ_ne {i : Nat} (h2 : i ≠ 2) (h3 : i ≠ 3) (h4 : i ≠ 4) (h5 : i ≠ 5) (h : cpJ base t z X Y dn w γ) : cpJ base t z X Y (did dn i) w γ := by
  have e2 : did dn i 2 = dn 2 := if_neg (Ne.symm h2)
  have e3 : did dn i 3 = dn 3 := if_neg (Ne.symm h3)
  have e4 : did dn i 4 = dn 4 := if_neg (Ne.symm h4)
  have e5 : did dn i 5 = dn 5 := if_neg (Ne.symm h5)
  exact ⟨by rw [e4, e2]; exact h.a1, by rw [e5, e3]; exact h.a2, by rw [e2]; exact h.n1, by rw [e3]; exact h.n2, by rw [e2, e4]; exact h.b1, by rw [e3, e5]; exact h.b2, by rw [e2, e3]; exact h.ne⟩
theorem cpJ_2 (hd : dn 2 = false) (hb : base ≤ w.heap.size) (h : cpJ base t z X Y dn w γ) : cpJ base t z X Y (did dn 2) (w.alloc (.cells z t)) (w.heap.size, γ.2) := by
  have e2 : did dn 2 2 = true := if_pos rfl
  have e3 : did dn 2 3 = dn 3 := if_neg (by decide)
  have e4 : did dn 2 4 = dn 4 := if_neg (by decide)
  have e5 : did dn 2 5 = dn 5 := if_neg (by decide)
  have d4 : dn 4 = false := by cases q : dn 4 with | false => rfl | true => rw [h.a1 q] at hd; cases hd
  refine ⟨fun _ => e2, by rw [e5, e3]; exact h.a2, fun q => (by rw [e2] at q; cases q), by rw [e3]; exact h.n2, fun _ => ⟨hb, ?_⟩, ?_, ?_⟩
  · rw [e4, d4]
    exact Blk.new w t z
  · rw [e3, e5]
    exact fun q => ⟨(h.b2 q).1, (h.b2 q).2.alloc _⟩
  · rw [e3]
    exact fun _ q e => by have := (h.b2 q).2.lt; simp only at e; omega
theorem cpJ_3 (hd : dn 3 = false) (hb : base ≤ w.heap.size) (h : cpJ base t z X Y dn w γ) : cpJ base t z X Y (did dn 3) (w.alloc (.cells z t)) (γ.1, w.heap.size) := by
  have e2 : did dn 3 2 = dn 2 := if_neg (by decide)
  have e3 : did dn 3 3 = true := if_pos rfl
  have e4 : did dn 3 4 = dn 4 := if_neg (by decide)
  have e5 : did dn 3 5 = dn 5 := if_neg (by decide)
  have d5 : dn 5 = false := by cases q : dn 5 with | false => rfl | true => rw [h.a2 q] at hd; cases hd
  refine ⟨by rw [e4, e2]; exact h.a1, fun _ => e3, by rw [e2]; exact h.n1, fun q => (by rw [e3] at q; cases q), ?_, fun _ => ⟨hb, ?_⟩, ?_⟩
  · rw [e2, e4]
    exact fun q => ⟨(h.b1 q).1, (h.b1 q).2.alloc _⟩
  · rw [e5, d5]
    exact Blk.new w t z
  · rw [e2]
    exact fun q _ e => by have := (h.b1 q).2.lt; simp only at e; omega
theorem cpJ_4 (hd : dn 4 = false) (h2 : dn 2 = true) (h : cpJ base t z X Y dn w γ) : Blk w γ.1 t z ∧ cpJ base t z X Y (did dn 4) (w.setRow γ.1 X) γ := by
  have e2 : did dn 4 2 = dn 2 := if_neg (by decide)
  have e3 : did dn 4 3 = dn 3 := if_neg (by decide)
  have e4 : did dn 4 4 = true := if_pos rfl
  have e5 : did dn 4 5 = dn 5 := if_neg (by decide)
  have hb := h.b1 h2
  rw [hd, if_neg (by decide)] at hb
  refine ⟨hb.2, fun _ => by rw [e2]; exact h2, by rw [e5, e3]; exact h.a2, by rw [e2]; exact h.n1, by rw [e3]; exact h.n2, fun _ => ⟨hb.1, ?_⟩, ?_, by rw [e2, e3]; exact h.ne⟩
  · rw [e4]
    exact hb.2.setRow X
  · rw [e3, e5]
    exact fun q => ⟨(h.b2 q).1, (h.b2 q).2.setRow_far (fun e => h.ne h2 q e.symm) _⟩
theorem cpJ_5 (hd : dn 5 = false) (h3 : dn 3 = true) (h : cpJ base t z X Y dn w γ) : Blk w γ.2 t z ∧ cpJ base t z X Y (did dn 5) (w.setRow γ.2 Y) γ := by
  have e2 : did dn 5 2 = dn 2 := if_neg (by decide)
  have e3 : did dn 5 3 = dn 3 := if_neg (by decide)
  have e4 : did dn 5 4 = dn 4 := if_neg (by decide)
  have e5 : did dn 5 5 = true := if_pos rfl
  have hb := h.b2 h3
  rw [hd, if_neg (by decide)] at hb
  refine ⟨hb.2, by rw [e4, e2]; exact h.a1, fun _ => by rw [e3]; exact h3, by rw [e2]; exact h.n1, by rw [e3]; exact h.n2, ?_, fun _ => ⟨hb.1, ?_⟩, by rw [e2, e3]; exact h.ne⟩
  · rw [e2, e4]
    exact fun q => ⟨(h.b1 q).1, (h.b1 q).2.setRow_far (h.ne q h3) _⟩
  · rw [e5]
    exact hb.2.setRow Y
theorem cpJ_start (base : Nat) (t : TypeId) (z X Y : Array Value) (w : World) : cpJ base t z X Y (fun _ => false) w (0, 0) := by
  constructor <;> simp
end
/-- A slot that points to the first, the second copy. -/
def PrG.cp1 (base : Nat) : PrG (cpT base) := ⟨fun v _ γ => γ.1 ≠ 0 ∧ v = .pointer (some ⟨γ.1, 0, none⟩), fun _ _ _ _ _ h ht => by rw [ht.2.1 h.1]; exact h⟩
def PrG.cp2 (base : Nat) : PrG (cpT base) := ⟨fun v _ γ => γ.2 ≠ 0 ∧ v = .pointer (some ⟨γ.2, 0, none⟩), fun _ _ _ _ _ h ht => by rw [ht.2.2 h.1]; exact h⟩
end Go.Proofs.YtbhaekdfpfncnaaDoor
