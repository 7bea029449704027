/- SHA-256 as plain mathematics: words are numbers below 2^32. No program, no memory. -/
import Derived.Test.YtbhaekdfpfncnaaDoorWords
import Derived.Test.YtbhaekdfpfncnaaDoorPlain
namespace Go.Proofs.YtbhaekdfpfncnaaDoor
set_option linter.unusedVariables false
set_option linter.unusedSimpArgs false

def rotr (x n : Nat) : Nat := x / 2 ^ n ||| x * 2 ^ (32 - n) % 4294967296
def sg0 (x : Nat) : Nat := rotr x 7 ^^^ rotr x 18 ^^^ x / 8
def sg1 (y : Nat) : Nat := rotr y 17 ^^^ rotr y 19 ^^^ y / 1024
def bs0 (a : Nat) : Nat := rotr a 2 ^^^ rotr a 13 ^^^ rotr a 22
def bs1 (e : Nat) : Nat := rotr e 6 ^^^ rotr e 11 ^^^ rotr e 25
def chs (e f g : Nat) : Nat := (e &&& f) ^^^ ((4294967295 - e) &&& g)
def mjr (a b c : Nat) : Nat := (a &&& b) ^^^ (a &&& c) ^^^ (b &&& c)
/-- The constants of the rounds. -/
def rkL : List Nat := [1116352408, 1899447441, 3049323471, 3921009573, 961987163, 1508970993, 2453635748, 2870763221, 3624381080, 310598401, 607225278, 1426881987, 1925078388, 2162078206, 2614888103, 3248222580, 3835390401, 4022224774, 264347078, 604807628, 770255983, 1249150122, 1555081692, 1996064986, 2554220882, 2821834349, 2952996808, 3210313671, 3336571891, 3584528711, 113926993, 338241895, 666307205, 773529912, 1294757372, 1396182291, 1695183700, 1986661051, 2177026350, 2456956037, 2730485921, 2820302411, 3259730800, 3345764771, 3516065817, 3600352804, 4094571909, 275423344, 430227734, 506948616, 659060556, 883997877, 958139571, 1322822218, 1537002063, 1747873779, 1955562222, 2024104815, 2227730452, 2361852424, 2428436474, 2756734187, 3204031479, 3329325298]
/-- Word i of 64 bytes. -/
def wrd (b : List UInt8) (i : Nat) : Nat := (((b.getD (4 * i) 0).toNat * 256 + (b.getD (4 * i + 1) 0).toNat) * 256 + (b.getD (4 * i + 2) 0).toNat) * 256 + (b.getD (4 * i + 3) 0).toNat
/-- The first n words of the rounds. -/
def wl (b : List UInt8) : Nat → List Nat
  | 0 => []
  | n + 1 => (fun l => l ++ [if n < 16 then wrd b n else (l.getD (n - 16) 0 + l.getD (n - 7) 0 + sg0 (l.getD (n - 15) 0) + sg1 (l.getD (n - 2) 0)) % 4294967296]) (wl b n)
structure S8 where
  a : Nat
  b : Nat
  c : Nat
  d : Nat
  e : Nat
  f : Nat
  g : Nat
  h : Nat
def S8.l (s : S8) : List Nat := [s.a, s.b, s.c, s.d, s.e, s.f, s.g, s.h]
def S8.ok (s : S8) : Prop := s.a < 4294967296 ∧ s.b < 4294967296 ∧ s.c < 4294967296 ∧ s.d < 4294967296 ∧ s.e < 4294967296 ∧ s.f < 4294967296 ∧ s.g < 4294967296 ∧ s.h < 4294967296
def rnd (v : S8) (k w : Nat) : S8 :=
  (fun t => ⟨(t + (bs0 v.a + mjr v.a v.b v.c)) % 4294967296, v.a, v.b, v.c, (v.d + t) % 4294967296, v.e, v.f, v.g⟩) ((v.h + bs1 v.e + chs v.e v.f v.g + k + w) % 4294967296)
def rnds (s : S8) (b : List UInt8) (n : Nat) : S8 := ((rkL.zip (wl b 64)).take n).foldl (fun v p => rnd v p.1 p.2) s
def addS (s v : S8) : S8 := ⟨(s.a + v.a) % 4294967296, (s.b + v.b) % 4294967296, (s.c + v.c) % 4294967296, (s.d + v.d) % 4294967296, (s.e + v.e) % 4294967296, (s.f + v.f) % 4294967296, (s.g + v.g) % 4294967296, (s.h + v.h) % 4294967296⟩
/-- The state behind 64 bytes. -/
def blkF (s : S8) (b : List UInt8) : S8 := addS s (rnds s b 64)
/-- The state behind n times 64 bytes. -/
def foldB : Nat → S8 → List UInt8 → S8
  | 0, s, _ => s
  | n + 1, s, l => foldB n (blkF s (l.take 64)) (l.drop 64)
def iv : S8 := ⟨1779033703, 3144134277, 1013904242, 2773480762, 1359893119, 2600822924, 528734635, 1541459225⟩
/-- The low four bytes of x, the highest first. -/
def be4 (x : Nat) : List UInt8 := be 4 x
/-- What stands behind n bytes. -/
def padB (n : Nat) : List UInt8 := (128 :: List.replicate ((119 - n % 64) % 64) 0) ++ be 8 (n * 8)
def outB (s : S8) : List UInt8 := be4 s.a ++ (be4 s.b ++ (be4 s.c ++ (be4 s.d ++ (be4 s.e ++ (be4 s.f ++ (be4 s.g ++ be4 s.h))))))
def sha (l : List UInt8) : List UInt8 := (fun m => outB (foldB (m.length / 64) iv m)) (l ++ padB l.length)

theorem sha_abc : sha [97, 98, 99] = [0xba, 0x78, 0x16, 0xbf, 0x8f, 0x01, 0xcf, 0xea, 0x41, 0x41, 0x40, 0xde, 0x5d, 0xae, 0x22, 0x23, 0xb0, 0x03, 0x61, 0xa3, 0x96, 0x17, 0x7a, 0x9c, 0xb4, 0x10, 0xff, 0x61, 0xf2, 0x00, 0x15, 0xad] := by decide +kernel

theorem padB_length (n : Nat) : (padB n).length = 9 + (119 - n % 64) % 64 := by simp [padB, be_length]; omega
theorem pad_mod (n : Nat) : (n + (padB n).length) % 64 = 0 := by rw [padB_length]; omega
theorem outB_length (s : S8) : (outB s).length = 32 := by simp [outB, be4, be_length]
theorem sha_length (l : List UInt8) : (sha l).length = 32 := outB_length _
theorem wl_length (b : List UInt8) : ∀ n, (wl b n).length = n
  | 0 => rfl
  | n + 1 => by show (wl b n ++ [_]).length = _; rw [List.length_append, wl_length b n]; rfl
theorem wl_get (b : List UInt8) {n i : Nat} (h : i < n) : (wl b (n + 1)).getD i 0 = (wl b n).getD i 0 := by
  show (wl b n ++ [_]).getD i 0 = _
  simp only [List.getD_eq_getElem?_getD]
  rw [List.getElem?_append_left (by rw [wl_length]; exact h)]
theorem wl_same (b : List UInt8) (i n : Nat) (h : i < n) : ∀ k, (wl b (n + k)).getD i 0 = (wl b n).getD i 0
  | 0 => rfl
  | k + 1 => by rw [show n + (k + 1) = (n + k) + 1 from rfl, wl_get b (by omega), wl_same b i n h k]
theorem rotr_lt (x n : Nat) (hx : x < 4294967296) : rotr x n < 4294967296 := by
  unfold rotr
  have h1 : x / 2 ^ n < 2 ^ 32 := Nat.lt_of_le_of_lt (Nat.div_le_self _ _) hx
  have h2 : x * 2 ^ (32 - n) % 4294967296 < 2 ^ 32 := Nat.mod_lt _ (by omega)
  exact Nat.or_lt_two_pow h1 h2
theorem wrd_lt (b : List UInt8) (i : Nat) : wrd b i < 4294967296 := by
  unfold wrd
  have h0 := (b.getD (4 * i) 0).toNat_lt
  have h1 := (b.getD (4 * i + 1) 0).toNat_lt
  have h2 := (b.getD (4 * i + 2) 0).toNat_lt
  have h3 := (b.getD (4 * i + 3) 0).toNat_lt
  omega
theorem wl_lt (b : List UInt8) (i : Nat) : ∀ n, (wl b n).getD i 0 < 4294967296
  | 0 => by simp [wl]
  | n + 1 => by
    show (wl b n ++ [_]).getD i 0 < _
    rw [List.getD]
    rcases Nat.lt_trichotomy i n with h | h | h
    · rw [List.getElem?_append_left (by rw [wl_length]; exact h)]
      exact wl_lt b i n
    · subst h
      rw [List.getElem?_append_right (by rw [wl_length]; exact Nat.le_refl _), wl_length, Nat.sub_self]
      simp only [List.getElem?_cons_zero, Option.getD_some]
      split
      · exact wrd_lt _ _
      · exact Nat.mod_lt _ (by omega)
    · rw [List.getElem?_eq_none (by rw [List.length_append, wl_length]; simp; omega)]
      simp
theorem rnd_ok {v : S8} (h : v.ok) (k w : Nat) : (rnd v k w).ok := by
  obtain ⟨h1, h2, h3, h4, h5, h6, h7, h8⟩ := h
  exact ⟨Nat.mod_lt _ (by omega), h1, h2, h3, Nat.mod_lt _ (by omega), h5, h6, h7⟩
theorem fold_zip (f : S8 → Nat → Nat → S8) (K L : List Nat) (hK : K.length = 64) (hL : L.length = 64) (s : S8) (n : Nat) (h : n < 64) :
    ((K.zip L).take (n + 1)).foldl (fun v p => f v p.1 p.2) s = f (((K.zip L).take n).foldl (fun v p => f v p.1 p.2) s) (K.getD n 0) (L.getD n 0) := by
  have hl : (K.zip L).length = 64 := by rw [List.length_zip, hK, hL]; rfl
  rw [List.take_succ_eq_append_getElem (by omega), List.foldl_append, List.foldl_cons, List.foldl_nil, List.getElem_zip, List.getD_eq_getElem?_getD, List.getD_eq_getElem?_getD, List.getElem?_eq_getElem (by omega), List.getElem?_eq_getElem (by omega)]
  rfl
theorem rnds_succ (s : S8) (b : List UInt8) (n : Nat) (h : n < 64) : rnds s b (n + 1) = rnd (rnds s b n) (rkL.getD n 0) ((wl b 64).getD n 0) :=
  fold_zip rnd rkL (wl b 64) rfl (wl_length b 64) s n h
theorem rnds_ok {s : S8} (h : s.ok) (b : List UInt8) : ∀ n, n ≤ 64 → (rnds s b n).ok
  | 0, _ => h
  | n + 1, hn => by rw [rnds_succ s b n (by omega)]; exact rnd_ok (rnds_ok h b n (by omega)) _ _
theorem addS_ok (s v : S8) : (addS s v).ok := ⟨Nat.mod_lt _ (by omega), Nat.mod_lt _ (by omega), Nat.mod_lt _ (by omega), Nat.mod_lt _ (by omega), Nat.mod_lt _ (by omega), Nat.mod_lt _ (by omega), Nat.mod_lt _ (by omega), Nat.mod_lt _ (by omega)⟩
theorem blkF_ok (s : S8) (b : List UInt8) : (blkF s b).ok := addS_ok _ _
end Go.Proofs.YtbhaekdfpfncnaaDoor
