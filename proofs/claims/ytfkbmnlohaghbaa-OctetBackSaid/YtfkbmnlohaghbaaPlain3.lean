/- Plain mathematics of chapter 1: what a reader takes is what a writer writes. -/
import Derived.Test.YtfkbmnlohaghbaaPlain2
namespace Go.Proofs.Ytfkbmnlohaghbaa
set_option linter.unusedVariables false
set_option linter.unusedSimpArgs false

theorem be_val : ∀ (n : Nat) (s : List UInt8), s.length = n → be n (val s) = s
  | 0, s, h => by have : s = [] := List.eq_nil_of_length_eq_zero h
                  subst this; rfl
  | n + 1, s, h => by
    obtain ⟨m, c, rfl⟩ : ∃ m c, s = m ++ [c] := by
      refine ⟨s.dropLast, s.getLast (by intro e; subst e; simp at h), ?_⟩
      rw [List.dropLast_concat_getLast]
    have hm : m.length = n := by simpa using h
    have hc := c.toNat_lt
    rw [be_snoc, val_snoc, show (val m * 256 + c.toNat) / 256 = val m from by omega, be_val n m hm]
    congr 2
    apply UInt8.toNat_inj.1
    rw [UInt8.toNat_ofNat']
    omega
theorem val_cons : ∀ (m : List UInt8) (c : UInt8), val (c :: m) = c.toNat * 256 ^ m.length + val m := by
  intro m
  induction h : m.length generalizing m with
  | zero =>
    intro c
    have : m = [] := List.eq_nil_of_length_eq_zero h
    subst this
    simp [val]
  | succ n ih =>
    intro c
    obtain ⟨k, d, rfl⟩ : ∃ k d, m = k ++ [d] := ⟨m.dropLast, m.getLast (by intro e; subst e; simp at h), by rw [List.dropLast_concat_getLast]⟩
    have hk : k.length = n := by simpa using h
    rw [← List.cons_append, val_snoc, val_snoc, ih k hk c, Nat.pow_succ]
    simp only [Nat.add_mul, Nat.mul_assoc]
    omega
theorem nlen_val (s : List UInt8) (h : s[0]? ≠ some 0) : nlen (val s) = s.length := by
  have h1 := nlen_le s.length _ (val_lt s)
  cases s with
  | nil => simp [val, nlen_zero]
  | cons c m =>
    have hc : 0 < c.toNat := by
      rcases Nat.eq_zero_or_pos c.toNat with h0 | h0
      · exfalso
        apply h
        have : c = 0 := UInt8.toNat_inj.1 h0
        subst this
        rfl
      · exact h0
    rcases Nat.lt_or_ge (nlen (val (c :: m))) (c :: m).length with h2 | h2
    · exfalso
      have h3 := lt_pow_nlen (val (c :: m))
      have h4 : 256 ^ nlen (val (c :: m)) ≤ 256 ^ m.length := Nat.pow_le_pow_right (by omega) (by simpa using Nat.le_of_lt_succ h2)
      rw [val_cons] at h3
      have h5 : 256 ^ m.length ≤ c.toNat * 256 ^ m.length := Nat.le_mul_of_pos_left _ hc
      have h6 : 256 ^ nlen (val (c :: m)) = 256 ^ nlen (c.toNat * 256 ^ m.length + val m) := by rw [val_cons]
      omega
    · omega
/-- What Number takes without an error is what Number writes. -/
theorem rnum_ok {l l' : List UInt8} {v e' : Nat} (h : rNum l 0 = (v, l', e')) (he : e' = 0) : l = num v ++ l' ∧ v < 18446744073709551616 := by
  subst he
  unfold rNum at h
  rw [if_neg (by omega)] at h
  cases l with
  | nil => simp at h
  | cons n t =>
    simp only at h
    by_cases h1 : 8 < n.toNat
    · rw [if_pos h1] at h; injection h with _ h; injection h with _ h; cases h
    rw [if_neg h1] at h
    by_cases h2 : t.length < n.toNat
    · rw [if_pos h2] at h; injection h with _ h; injection h with _ h; cases h
    rw [if_neg h2] at h
    by_cases h3 : 0 < n.toNat ∧ t[0]? = some 0
    · rw [if_pos h3] at h; injection h with _ h; injection h with _ h; cases h
    rw [if_neg h3] at h
    injection h with hv h
    injection h with hl _
    have hlen : (t.take n.toNat).length = n.toNat := by simp; omega
    have hz : (t.take n.toNat)[0]? ≠ some 0 := by
      intro hz
      rcases Nat.eq_zero_or_pos n.toNat with h0 | h0
      · rw [h0] at hz; simp at hz
      · rw [List.getElem?_take, if_pos h0] at hz
        exact h3 ⟨h0, hz⟩
    have hn := nlen_val _ hz
    rw [hlen] at hn
    rw [hv] at hn
    have hb := be_val n.toNat _ hlen
    rw [hv] at hb
    refine ⟨?_, ?_⟩
    · unfold num
      rw [hn, hb, ← hl, show UInt8.ofNat n.toNat = n from by apply UInt8.toNat_inj.1; rw [UInt8.toNat_ofNat']; have := n.toNat_lt; omega]
      simp
    · have := val_lt (t.take n.toNat)
      rw [hv, hlen] at this
      have h8 : 256 ^ n.toNat ≤ 256 ^ 8 := Nat.pow_le_pow_right (by omega) (by omega)
      have : (256 : Nat) ^ 8 = 18446744073709551616 := by decide
      omega
/-- A reader takes what Number wrote. -/
theorem rnum_num (x : Nat) (hx : x < 18446744073709551616) (m : List UInt8) : rNum (num x ++ m) 0 = (x, m, 0) := by
  have h8 := nlen_le8 hx
  have hn : (UInt8.ofNat (nlen x)).toNat = nlen x := by rw [UInt8.toNat_ofNat']; omega
  have hb := be_length (nlen x) x
  unfold rNum
  rw [if_neg (by omega)]
  show (if 8 < (UInt8.ofNat (nlen x)).toNat then _ else _) = _
  rw [hn, if_neg (by omega), if_neg (by simp; omega), if_neg ?_, show (be (nlen x) x).append m = be (nlen x) x ++ m from rfl, List.take_append_of_le_length (by omega), List.drop_append_of_le_length (by omega), List.take_of_length_le (by omega), List.drop_of_length_le (by omega)]
  · have hv : val (be (nlen x) x) = x := by
      have key : ∀ n y, y < 256 ^ n → val (be n y) = y := by
        intro n
        induction n with
        | zero => intro y hy; have : y = 0 := by simpa using hy
                  subst this; rfl
        | succ n ih =>
          intro y hy
          rw [be_snoc, val_snoc, ih _ (by rw [Nat.pow_succ] at hy; omega), UInt8.toNat_ofNat']
          omega
      exact key _ _ (lt_pow_nlen x)
    rw [hv]
    rfl
  · rintro ⟨h0, h1⟩
    have hg := be_get (nlen x) x 0 h0
    rw [show (be (nlen x) x).append m = be (nlen x) x ++ m from rfl, List.getElem?_append_left (by omega), hg] at h1
    injection h1 with h1
    have h2 := congrArg UInt8.toNat h1
    rw [UInt8.toNat_ofNat', Nat.sub_zero] at h2
    have h3 := div_pow_pred x ((nlen_pos_iff x).1 h0)
    have h4 : x / 256 ^ (nlen x - 1) < 256 := by
      rw [Nat.div_lt_iff_lt_mul (Nat.pow_pos (by omega)), Nat.mul_comm, ← Nat.pow_succ, show (nlen x - 1).succ = nlen x from by omega]
      exact lt_pow_nlen x
    have h5 : x / 256 ^ (nlen x - 1) % 2 ^ 8 = 0 := h2
    rw [Nat.mod_eq_of_lt (by exact h4)] at h5
    exact h3 h5
theorem rnum_len (l : List UInt8) (e : Nat) : (rNum l e).2.1.length ≤ l.length := by
  unfold rNum
  split
  · simp
  · split
    · simp
    · split
      · simp
      · split
        · simp
        · split
          · simp
          · simp; omega
theorem rblk_len (l : List UInt8) (e : Nat) : (rBlk l e).1.length ≤ l.length := by
  have := rnum_len l e
  unfold rBlk
  split
  · simp
  · split
    · simp
    · unfold rFix
      split
      · simp
      · split
        · simp
        · simp; omega
theorem rblk_ok {l b l' : List UInt8} {e' : Nat} (h : rBlk l 0 = (b, l', e')) (he : e' = 0) : l = num b.length ++ b ++ l' := by
  subst he
  unfold rBlk at h
  split at h
  · next h0 => injection h with _ h; injection h with _ h; omega
  · next h0 =>
    obtain ⟨h1, _⟩ := rnum_ok (l := l) (l' := (rNum l 0).2.1) (v := (rNum l 0).1) (e' := (rNum l 0).2.2) rfl (by omega)
    split at h
    · injection h with _ h; injection h with _ h; omega
    · unfold rFix at h
      rw [if_neg (by omega)] at h
      split at h
      · injection h with _ h; injection h with _ h; omega
      · next h2 =>
        injection h with hb h
        injection h with hl _
        rw [← hb, ← hl, List.length_take_of_le (by omega), List.append_assoc, List.take_append_drop]
        exact h1
theorem rblk_num (b m : List UInt8) (hb : b.length ≤ 1048576) : rBlk (num b.length ++ b ++ m) 0 = (b, m, 0) := by
  unfold rBlk
  rw [List.append_assoc, rnum_num _ (by omega)]
  simp only
  rw [if_neg (by omega), if_neg (by omega)]
  unfold rFix
  rw [if_neg (by omega), if_neg (by simp)]
  simp
end Go.Proofs.Ytfkbmnlohaghbaa
