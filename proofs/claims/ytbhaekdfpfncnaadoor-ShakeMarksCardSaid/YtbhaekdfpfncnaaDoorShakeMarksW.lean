/- The law ShakeMarks, walked. -/
import Derived.Test.YtbhaekdfpfncnaaDoorLight
namespace Go.Proofs.YtbhaekdfpfncnaaDoor
set_option linter.unusedVariables false
set_option linter.unusedSimpArgs false
open Go.RowKit

theorem str_data (l : List UInt8) : (str l).data.toList = l := by simp [str]
theorem flat_le : ∀ (ls : List (List UInt8)), (∀ l ∈ ls, l.length ≤ 200) → ls.flatten.length ≤ 200 * ls.length
  | [], _ => by simp
  | l :: ls, h => by
    have h1 := h l (by simp)
    have h2 := flat_le ls fun x hx => h x (by simp [hx])
    simp only [List.flatten_cons, List.length_append, List.length_cons]
    omega
theorem rdl_nil (w : World) : RdL w (fun _ => True) none [] := ⟨[], rfl, Rd.nil _ _ _, fun i l h => by simp at h⟩
theorem str_app (s : ByteArray) (l : List UInt8) : s ++ str l = str (s.data.toList ++ l) := by
  apply ByteArray.ext
  rw [ByteArray.data_append]
  simp [str]
theorem mk_one (key t m : List UInt8) : markF key t [m].flatten = markF key t m := by simp
theorem mk_txt (key t m : List UInt8) : markF key (t ++ m) ([] : List (List UInt8)).flatten = markF key t m := by simp [markF]
theorem mk_two (key t m : List UInt8) : markF key [] [t, m].flatten = markF key t m := by simp [markF]

set_option maxHeartbeats 8000000 in
theorem marks_calls (key : List UInt8) (hk : key.length = 32) (s : ByteArray) (A : Option Addr) (ls : List (List UInt8)) (c : Nat) (w : World) (F : Nat → Prop) (hr : RdL w F A ls) (hc : ls.length ≤ c) (hm : c ≤ maxLen) (hx : ∀ l ∈ ls, l.length ≤ maxLen) (hs64 : s.size ≤ maxLen) (hG : Glb w) :
    Calls Tryd.prog 6 #[.agg (bc key).toArray, .string s, .slice A ls.length c] w fun e w' => e = .returned (.bool true) ∧ Below w.heap.size w w' := by
  have HG := Lib.hid hG
  have HR := Lib.hid hr
  have HK := fun _ : Unit => hk
  have HX := fun _ : Unit => hx
  have HC := fun _ : Unit => hc
  obtain ⟨i0, hi0, hz0, hz1, hz2⟩ := info_parts info_u8'
  obtain ⟨KC, hKC⟩ : ∃ X, X = (bc key).toArray := ⟨_, rfl⟩
  have HKC := fun _ : Unit => hKC
  have ZK : Unit → KC.size = 32 := fun _ => by rw [hKC, List.size_toArray, bc_length, hk]
  rw [← hKC]
  clear hG hr hk hKC hx hc
  go_enter Tryd.func6, Tryd.ntmps6
  go_wp2_with fail
  generalize hw1 : World.alloc w _ = w1
  have b0 : Hid (Blk w1 w.heap.size 31 KC) := by show Blk _ _ _ _; rw [← hw1]; exact Blk.new _ _ _
  have n1 : NewMem w w1 := by rw [← hw1]; exact NewMem.alloc _ _
  clear hw1
  refine (lives_calls _ (HG.out.below n1)).mono ?_
  rintro e w2 ⟨rfl, hb2⟩
  have b0 := Lib.hid (b0.out.below hb2)
  have n2 : NewMem w w2 := NewMem.trans _ _ _ n1 hb2
  clear n1 hb2
  have HR := Lib.hid (HR.out.below n2)
  by_cases hbig : 200 < s.size
  · have q : decide ((200 : Int) < (s.size : Int)) = true := by simp; omega
    go_wp2_with fail
    go_ret
    exact ⟨rfl, n2⟩
  have q : decide ((200 : Int) < (s.size : Int)) = false := by simp; omega
  go_wp2_with fail
  refine (light_calls A ls c 10 200 _ F HR.out (by have := HC (); simp [maxLen] at hm; omega) (fun l hl => by have := HX () l hl; simp [maxLen] at this; omega) (by omega) (by omega)).mono ?_
  rintro e w' ⟨rfl, rfl⟩
  cases hlb : lightB ls 10 200
  · go_wp2_with fail
    go_ret
    exact ⟨rfl, n2⟩
  obtain ⟨hln, hll⟩ := lightB_true hlb
  have HLL := fun _ : Unit => hll
  clear hlb hll q
  go_wp2_with fail
  go_loopw [7, 8] (fun t7 i wr => ∃ (k : Nat) (A1 : Option Addr) (c1 : Nat) (q : List UInt8), k ≤ ls.length ∧ i = .int .i64 k ∧ t7 = .slice A1 q.length c1 ∧ Hid (q = (ls.take k).flatten) ∧ Hid (wr.ownsRow w2.heap.size 5 1 (.slice A1 q.length c1) q.length (bc q)) ∧ Hid (Below w2.heap.size w2 wr)) (fun _ i _ => ls.length - (intOf i).toNat)
  case atStart => exact ⟨0, none, 0, [], by omega, rfl, rfl, rfl, World.ownsRow_nil _ _ _ _, Below.refl _ _⟩
  case round =>
    obtain ⟨k, A1, c1, q, hk, rfl, rfl, hqf, hown, hN⟩ := hrel
    have hfl := flat_le (ls.take k) fun l hl => HLL () l (List.mem_of_mem_take hl)
    rw [List.length_take, ← hqf.out] at hfl
    by_cases hlt : k < ls.length
    · have hRw := HR.out.below hN.out
      obtain ⟨b, off, rfl, _, hcell⟩ := hRw.form (by omega)
      obtain ⟨a, c2, hc2, hr2, hlc⟩ := hcell k ls[k] (List.getElem?_eq_getElem hlt)
      have hl200 := HLL () ls[k] (List.getElem_mem _)
      have HR2 := Lib.hid hr2
      obtain ⟨y, hy⟩ : ∃ y, y = ls[k] := ⟨_, rfl⟩
      rw [← hy] at hc2 HR2 hlc hl200
      have HYY := fun _ : Unit => hy
      clear hRw hcell hr2 hy
      go_wp2_with (at_builtin; refine wpList_append_rd _ rfl (.tmp 25) (.tmp 29) _ rfl w2.heap.size 5 i0 _ 1 Tryd.underlying25 hi0 hz0 hz1 hz2 rfl (.slice A1 q.length c1) _ _ rfl hown.out _ a _ c2 (bc y) rfl (by rw [bc_length]) HR2.out (bc_one _) (by rw [bc_length]; simp [maxLen]; omega) (by rw [bc_length]; omega) hN.out.size ?_; intro v1 w3 hown1 hg1 hat1)
      obtain ⟨A3, c3, rfl, _⟩ := own_shape hown1
      have e5 : q.length + (bc y).length = (q ++ y).length := by rw [List.length_append, bc_length]
      have e6 : bc q ++ bc y = bc (q ++ y) := by simp [bc]
      have e7 : q ++ y = (ls.take (k + 1)).flatten := by rw [List.take_succ_eq_append_getElem hlt, List.flatten_append, HYY (), hqf.out]; simp
      rw [e5, e6] at hown1
      rw [e5]
      have hN3 : Below w2.heap.size w2 w3 := hN.out.grown hg1 hN.out.size (by have := hown.out.lt; intro k hk; exact (this k hk).1)
      have HO1 := Lib.hid hown1
      have HN3 := Lib.hid hN3
      obtain ⟨q2, hq2⟩ : ∃ q2, q2 = q ++ y := ⟨_, rfl⟩
      rw [← hq2] at e7 HO1 ⊢
      have HQ2 := Lib.hid e7
      clear hown1 hg1 hat1 hN3 e5 e6 e7 hq2
      go_wp2_with fail
      go_roundw
      case rel => exact ⟨k + 1, A3, c3, q2, by omega, by go_num, rfl, HQ2, HO1, HN3⟩
      case measure => simp [intOf]; omega
    · have hke : k = ls.length := by omega
      subst hke
      obtain ⟨one, hone1⟩ : ∃ one, one = q := ⟨_, rfl⟩
      have hone : one = ls.flatten := by rw [hone1, hqf.out, List.take_length]
      rw [← hone1] at hown hfl ⊢
      clear hqf hone1
      obtain ⟨_, _, he1, hle, _⟩ := own_shape hown.out
      cases he1
      have HOC : one.length ≤ c1 := hle
      have HO := Lib.hid (Rd.of_own hown.out (by decide))
      have HONE := fun _ : Unit => hone
      have hof : ls.flatten.length ≤ 100000 := by rw [← hone]; omega
      have hon : one.length ≤ 2000 := by omega
      have b0 := Lib.hid (blk_below b0.out hN.out b0.out.lt)
      have n5 : NewMem w wr := NewMem.trans _ _ _ n2 hN.out
      have HG5 := Lib.hid ((HG.out.below n2).below hN.out)
      have HR5 := Lib.hid (HR.out.below hN.out)
      obtain ⟨z, hz⟩ : ∃ z, z = markF key s.data.toList one := ⟨_, rfl⟩
      have hzl : z.length = 16 := by rw [hz]; exact markF_length _ _ _
      have HZ := fun _ : Unit => hz
      have hsl : s.size = s.data.toList.length := by rw [Array.length_toList]; rfl
      have HSL := fun _ : Unit => hsl
      have STRL : Unit → (str (s.data.toList ++ one)).size = s.size + one.length := fun _ => by rw [hsl]; show (s.data.toList ++ one).toArray.size = _; rw [List.size_toArray, List.length_append]
      have MK7 := fun _ : Unit => mk_one key s.data.toList one
      have MK20 := MK7
      have MK34 := MK7
      have heqz := fun (w : World) => eq16 w z z hzl hzl
      rw [show decide (z = z) = true from decide_eq_true rfl] at heqz
      clear hone hz hzl hsl hown hle
      go_wp2_with fail
      refine region_toG (T := newT) (J := noJ) newT_trans newT_refl () (fun vs W γ => vs 38 = .bool true) (by kernel_rfl) (by kernel_rfl) (by kernel_rfl) trivial ⟨prOfG
        ([ .is (.agg KC), .is (.string s), .is (.slice A ls.length c), .is (.agg (bc z).toArray), .is (.agg KC), .is (.string s), .is (.slice A1 one.length c1), .listsN [one], .is (.agg (bc z).toArray), .is (.bool true), .is (.bool true), .is (.agg KC), .is (.string s), .is (.slice A1 one.length c1), .is (.string (str one)), .is (.string (str (s.data.toList ++ one))), .is (.agg (bc z).toArray), .is (.agg KC), .is (.string s), .is (.slice A1 one.length c1)] ++ [ .listsN [one], .is (.agg (bc z).toArray), .is (.bool true), .is (.bool true), .is (.bool true), .is (.agg KC), .is (.string s), .bytesN s.data.toList, .is (.slice A1 one.length c1), .listsN [s.data.toList, one], .is (.agg (bc z).toArray), .is (.agg KC), .is (.string s), .is (.slice A1 one.length c1), .listsN [one], .is (.agg (bc z).toArray), .is (.bool true), .is (.bool true), .is (.bool true)] : List (PrG newT)), prOfG_st _, no_none (by kernel_rfl), ⟨?_, ?_, ?_, ?_, ?_, ?_, ?_, ?_, ?_, ?_, ?_, ?_, ?_, ?_, ?_, ?_, ?_, ?_, ?_, ?_, ?_, ?_, ?_, ?_, ?_, ?_, ?_, ?_, ?_, ?_, ?_, ?_, ?_, ?_, ?_, ?_, ?_, ?_, ?_, trivial⟩, fun vs W γ hT hJ hp => ?_⟩ ?_
      · refine owes_plainG rfl fun dn a W γ hT hdn hdp hJ hf hd => ?_
        have e3 := hf 3 rfl
        exact step_load_row 31 _ rfl ((eval_slot _ 3).trans e3) (b0.out.below (newT_nm hT)) Tryd.underlying31 rfl (by rw [ZK ()]; kernel_rfl) ⟨γ, newT_refl _ _, trivial, rfl⟩
      · refine owes_plainG rfl fun dn a W γ hT hdn hdp hJ hf hd => ?_
        have e1 := hf 1 rfl
        exact step_val (w' := W) (by simp only [execOp]; go_simp) ⟨γ, newT_refl _ _, trivial, rfl⟩
      · refine owes_plainG rfl fun dn a W γ hT hdn hdp hJ hf hd => ?_
        have e2 := hf 2 rfl
        exact step_val (w' := W) (by simp only [execOp]; go_simp) ⟨γ, newT_refl _ _, trivial, rfl⟩
      · refine owes_plainG rfl fun dn a W γ hT hdn hdp hJ hf hd => ?_
        obtain ⟨v0, d0, rfl⟩ := hd 0 rfl
        obtain ⟨v1, d1, rfl⟩ := hd 1 rfl
        obtain ⟨v2, d2, rfl⟩ := hd 2 rfl
        refine step_call (w' := W) (f := 17) (args := #[.agg KC, .string s, .slice A ls.length c]) (by simp only [execOp]; go_simp) ?_
        rw [HKC ()]
        refine (smark_calls key (HK ()) s (by omega) A ls c W F (HR5.out.below (newT_nm hT)) (HC ()) (HG5.out.below (newT_nm hT)) (by omega) (by omega)).mono ?_
        rintro e w' ⟨rfl, hb⟩
        exact ⟨_, rfl, γ, hb, trivial, by rw [HZ (), HONE ()]; rfl⟩
      · refine owes_plainG rfl fun dn a W γ hT hdn hdp hJ hf hd => ?_
        have e3 := hf 3 rfl
        exact step_load_row 31 _ rfl ((eval_slot _ 3).trans e3) (b0.out.below (newT_nm hT)) Tryd.underlying31 rfl (by rw [ZK ()]; kernel_rfl) ⟨γ, newT_refl _ _, trivial, rfl⟩
      · refine owes_plainG rfl fun dn a W γ hT hdn hdp hJ hf hd => ?_
        have e1 := hf 1 rfl
        exact step_val (w' := W) (by simp only [execOp]; go_simp) ⟨γ, newT_refl _ _, trivial, rfl⟩
      · refine owes_plainG rfl fun dn a W γ hT hdn hdp hJ hf hd => ?_
        have e7 := hf 7 rfl
        exact step_val (w' := W) (by simp only [execOp]; go_simp) ⟨γ, newT_refl _ _, trivial, rfl⟩
      · refine owes_plainG rfl fun dn a W γ hT hdn hdp hJ hf hd => ?_
        obtain ⟨v6, d6, rfl⟩ := hd 6 rfl
        refine step_val (w' := W.alloc (.cells #[.slice A1 one.length c1] 25)) (v := .slice (some ⟨W.heap.size, 0, none⟩) 1 1) (by simp only [execOp]; go_simp) ⟨γ, NewMem.alloc _ _, trivial, _, _, rfl, (rdl_one 25 (HO.out.below (newT_nm hT)) HOC rfl).mono fun _ _ _ => trivial, Nat.le_refl _⟩
      · refine owes_plainG rfl fun dn a W γ hT hdn hdp hJ hf hd => ?_
        obtain ⟨v4, d4, rfl⟩ := hd 4 rfl
        obtain ⟨v5, d5, rfl⟩ := hd 5 rfl
        obtain ⟨v7, d7, A7, c7, rfl, r7, k7⟩ := hd 7 rfl
        refine step_call (w' := W) (f := 17) (args := #[.agg KC, .string s, .slice A7 1 c7]) (by simp only [execOp]; go_simp) ?_
        rw [HKC ()]
        refine (smark_calls key (HK ()) s (by omega) A7 [one] c7 W (fun _ => True) r7 k7 (HG5.out.below (newT_nm hT)) (by simp; omega) (by simp)).mono ?_
        rintro e w' ⟨rfl, hb⟩
        exact ⟨_, rfl, γ, hb, trivial, by rw [HZ ()]; show Value.agg _ = Value.agg _; rw [MK7 ()]⟩
      · refine owes_plainG rfl fun dn a W γ hT hdn hdp hJ hf hd => ?_
        obtain ⟨v3, d3, rfl⟩ := hd 3 rfl
        obtain ⟨v8, d8, rfl⟩ := hd 8 rfl
        have hq := heqz W
        exact step_val (w' := W) (by simp only [execOp]; go_simp) ⟨γ, newT_refl _ _, trivial, rfl⟩
      · refine owes_plainG rfl fun dn a W γ hT hdn hdp hJ hf hd => ?_
        obtain ⟨v9, d9, rfl⟩ := hd 9 rfl
        exact step_val (w' := W) (by simp only [execOp]; go_simp) ⟨γ, newT_refl _ _, trivial, rfl⟩
      · refine owes_ifG rfl rfl (fun v w γ h => h) fun dn a W γ hT hdn hdp hJ hf hd => ?_
        have e3 := hf 3 rfl
        exact step_load_row 31 _ rfl ((eval_slot _ 3).trans e3) (b0.out.below (newT_nm hT)) Tryd.underlying31 rfl (by rw [ZK ()]; kernel_rfl) ⟨γ, newT_refl _ _, trivial, rfl⟩
      · refine owes_ifG rfl rfl (fun v w γ h => h) fun dn a W γ hT hdn hdp hJ hf hd => ?_
        have e1 := hf 1 rfl
        exact step_val (w' := W) (by simp only [execOp]; go_simp) ⟨γ, newT_refl _ _, trivial, rfl⟩
      · refine owes_ifG rfl rfl (fun v w γ h => h) fun dn a W γ hT hdn hdp hJ hf hd => ?_
        have e7 := hf 7 rfl
        exact step_val (w' := W) (by simp only [execOp]; go_simp) ⟨γ, newT_refl _ _, trivial, rfl⟩
      · refine owes_ifG rfl rfl (fun v w γ h => h) fun dn a W γ hT hdn hdp hJ hf hd => ?_
        obtain ⟨v13, d13, rfl⟩ := hd 13 rfl
        have hcs := conv_str c1 (HO.out.below (newT_nm hT))
        exact step_val (w' := W) (by simp only [execOp]; go_simp) ⟨γ, newT_refl _ _, trivial, rfl⟩
      · refine owes_ifG rfl rfl (fun v w γ h => h) fun dn a W γ hT hdn hdp hJ hf hd => ?_
        obtain ⟨v12, d12, rfl⟩ := hd 12 rfl
        obtain ⟨v14, d14, rfl⟩ := hd 14 rfl
        have ha1 : ¬ (9223372036854775807 < s.size + (str one).size) := by rw [show (str one).size = one.length from List.size_toArray]; omega
        have ha2 := str_app s one
        exact step_val (w' := W) (by first | (simp only [execOp]; go_simp; done) | (simp only [execOp]; go_simp; rw [if_neg ha1, ha2])) ⟨γ, newT_refl _ _, trivial, rfl⟩
      · refine owes_ifG rfl rfl (fun v w γ h => h) fun dn a W γ hT hdn hdp hJ hf hd => ?_
        obtain ⟨v11, d11, rfl⟩ := hd 11 rfl
        obtain ⟨v15, d15, rfl⟩ := hd 15 rfl
        refine step_call (w' := W) (f := 17) (args := #[.agg KC, .string (str (s.data.toList ++ one)), .slice none 0 0]) (by simp only [execOp]; go_simp) ?_
        rw [HKC ()]
        refine (smark_calls key (HK ()) (str (s.data.toList ++ one)) (by rw [STRL ()]; omega) none [] 0 W (fun _ => True) (rdl_nil W) (Nat.le_refl _) (HG5.out.below (newT_nm hT)) (by simp) (by simp)).mono ?_
        rintro e w' ⟨rfl, hb⟩
        exact ⟨_, rfl, γ, hb, trivial, by rw [HZ (), str_data, mk_txt]; rfl⟩
      · refine owes_ifG rfl rfl (fun v w γ h => h) fun dn a W γ hT hdn hdp hJ hf hd => ?_
        have e3 := hf 3 rfl
        exact step_load_row 31 _ rfl ((eval_slot _ 3).trans e3) (b0.out.below (newT_nm hT)) Tryd.underlying31 rfl (by rw [ZK ()]; kernel_rfl) ⟨γ, newT_refl _ _, trivial, rfl⟩
      · refine owes_ifG rfl rfl (fun v w γ h => h) fun dn a W γ hT hdn hdp hJ hf hd => ?_
        have e1 := hf 1 rfl
        exact step_val (w' := W) (by simp only [execOp]; go_simp) ⟨γ, newT_refl _ _, trivial, rfl⟩
      · refine owes_ifG rfl rfl (fun v w γ h => h) fun dn a W γ hT hdn hdp hJ hf hd => ?_
        have e7 := hf 7 rfl
        exact step_val (w' := W) (by simp only [execOp]; go_simp) ⟨γ, newT_refl _ _, trivial, rfl⟩
      · refine owes_ifG rfl rfl (fun v w γ h => h) fun dn a W γ hT hdn hdp hJ hf hd => ?_
        obtain ⟨v19, d19, rfl⟩ := hd 19 rfl
        refine step_val (w' := W.alloc (.cells #[.slice A1 one.length c1] 25)) (v := .slice (some ⟨W.heap.size, 0, none⟩) 1 1) (by simp only [execOp]; go_simp) ⟨γ, NewMem.alloc _ _, trivial, _, _, rfl, (rdl_one 25 (HO.out.below (newT_nm hT)) HOC rfl).mono fun _ _ _ => trivial, Nat.le_refl _⟩
      · refine owes_ifG rfl rfl (fun v w γ h => h) fun dn a W γ hT hdn hdp hJ hf hd => ?_
        obtain ⟨v17, d17, rfl⟩ := hd 17 rfl
        obtain ⟨v18, d18, rfl⟩ := hd 18 rfl
        obtain ⟨v20, d20, A20, c20, rfl, r20, k20⟩ := hd 20 rfl
        refine step_call (w' := W) (f := 17) (args := #[.agg KC, .string s, .slice A20 1 c20]) (by simp only [execOp]; go_simp) ?_
        rw [HKC ()]
        refine (smark_calls key (HK ()) s (by omega) A20 [one] c20 W (fun _ => True) r20 k20 (HG5.out.below (newT_nm hT)) (by simp; omega) (by simp)).mono ?_
        rintro e w' ⟨rfl, hb⟩
        exact ⟨_, rfl, γ, hb, trivial, by rw [HZ ()]; show Value.agg _ = Value.agg _; rw [MK20 ()]⟩
      · refine owes_ifG rfl rfl (fun v w γ h => h) fun dn a W γ hT hdn hdp hJ hf hd => ?_
        obtain ⟨v16, d16, rfl⟩ := hd 16 rfl
        obtain ⟨v21, d21, rfl⟩ := hd 21 rfl
        have hq := heqz W
        exact step_val (w' := W) (by simp only [execOp]; go_simp) ⟨γ, newT_refl _ _, trivial, rfl⟩
      · refine owes_plainG rfl fun dn a W γ hT hdn hdp hJ hf hd => ?_
        obtain ⟨v10, d10, rfl⟩ := hd 10 rfl
        obtain ⟨v22, d22, rfl⟩ := hd 22 rfl
        exact step_val (w' := W) (by simp only [execOp]; go_simp) ⟨γ, newT_refl _ _, trivial, rfl⟩
      · refine owes_plainG rfl fun dn a W γ hT hdn hdp hJ hf hd => ?_
        obtain ⟨v23, d23, rfl⟩ := hd 23 rfl
        exact step_val (w' := W) (by simp only [execOp]; go_simp) ⟨γ, newT_refl _ _, trivial, rfl⟩
      · refine owes_ifG rfl rfl (fun v w γ h => h) fun dn a W γ hT hdn hdp hJ hf hd => ?_
        have e3 := hf 3 rfl
        exact step_load_row 31 _ rfl ((eval_slot _ 3).trans e3) (b0.out.below (newT_nm hT)) Tryd.underlying31 rfl (by rw [ZK ()]; kernel_rfl) ⟨γ, newT_refl _ _, trivial, rfl⟩
      · refine owes_ifG rfl rfl (fun v w γ h => h) fun dn a W γ hT hdn hdp hJ hf hd => ?_
        have e1 := hf 1 rfl
        exact step_val (w' := W) (by simp only [execOp]; go_simp) ⟨γ, newT_refl _ _, trivial, rfl⟩
      · refine owes_ifG rfl rfl (fun v w γ h => h) fun dn a W γ hT hdn hdp hJ hf hd => ?_
        obtain ⟨v26, d26, rfl⟩ := hd 26 rfl
        have hv := conv_rd W 5 s
        have hcv := run_conv W s
        exact step_val (w' := Lib.bytesWorld W 5 s) (v := .slice (some ⟨W.heap.size, 0, none⟩) s.size (grownCap W s.size 0 5)) (by simp only [execOp]; go_simp) ⟨γ, hv.2.2, trivial, _, _, by rw [← HSL ()], hv.1, by rw [← HSL ()]; exact hv.2.1⟩
      · refine owes_ifG rfl rfl (fun v w γ h => h) fun dn a W γ hT hdn hdp hJ hf hd => ?_
        have e7 := hf 7 rfl
        exact step_val (w' := W) (by simp only [execOp]; go_simp) ⟨γ, newT_refl _ _, trivial, rfl⟩
      · refine owes_ifG rfl rfl (fun v w γ h => h) fun dn a W γ hT hdn hdp hJ hf hd => ?_
        obtain ⟨v27, d27, A27, c27, rfl, r27, k27⟩ := hd 27 rfl
        obtain ⟨v28, d28, rfl⟩ := hd 28 rfl
        refine step_val (w' := W.alloc (.cells #[.slice A27 s.data.toList.length c27, .slice A1 one.length c1] 25)) (v := .slice (some ⟨W.heap.size, 0, none⟩) 2 2) (by simp only [execOp]; go_simp) ⟨γ, NewMem.alloc _ _, trivial, _, _, rfl, rdl_two_eq (F := fun _ => True) 25 (r27.mono fun _ _ _ => trivial) k27 ((HO.out.below (newT_nm hT)).mono fun _ _ _ => trivial) HOC rfl rfl rfl, Nat.le_refl _⟩
      · refine owes_ifG rfl rfl (fun v w γ h => h) fun dn a W γ hT hdn hdp hJ hf hd => ?_
        obtain ⟨v25, d25, rfl⟩ := hd 25 rfl
        obtain ⟨v29, d29, A29, c29, rfl, r29, k29⟩ := hd 29 rfl
        refine step_call (w' := W) (f := 17) (args := #[.agg KC, .string ⟨#[]⟩, .slice A29 2 c29]) (by simp only [execOp]; go_simp) ?_
        rw [HKC ()]
        refine (smark_calls key (HK ()) ⟨#[]⟩ (by decide) A29 [s.data.toList, one] c29 W (fun _ => True) r29 k29 (HG5.out.below (newT_nm hT)) (by simp; omega) (by simp)).mono ?_
        rintro e w' ⟨rfl, hb⟩
        exact ⟨_, rfl, γ, hb, trivial, by rw [HZ ()]; show Value.agg _ = Value.agg _; rw [show (⟨#[]⟩ : ByteArray).data.toList = [] from rfl, mk_two]⟩
      · refine owes_ifG rfl rfl (fun v w γ h => h) fun dn a W γ hT hdn hdp hJ hf hd => ?_
        have e3 := hf 3 rfl
        exact step_load_row 31 _ rfl ((eval_slot _ 3).trans e3) (b0.out.below (newT_nm hT)) Tryd.underlying31 rfl (by rw [ZK ()]; kernel_rfl) ⟨γ, newT_refl _ _, trivial, rfl⟩
      · refine owes_ifG rfl rfl (fun v w γ h => h) fun dn a W γ hT hdn hdp hJ hf hd => ?_
        have e1 := hf 1 rfl
        exact step_val (w' := W) (by simp only [execOp]; go_simp) ⟨γ, newT_refl _ _, trivial, rfl⟩
      · refine owes_ifG rfl rfl (fun v w γ h => h) fun dn a W γ hT hdn hdp hJ hf hd => ?_
        have e7 := hf 7 rfl
        exact step_val (w' := W) (by simp only [execOp]; go_simp) ⟨γ, newT_refl _ _, trivial, rfl⟩
      · refine owes_ifG rfl rfl (fun v w γ h => h) fun dn a W γ hT hdn hdp hJ hf hd => ?_
        obtain ⟨v33, d33, rfl⟩ := hd 33 rfl
        refine step_val (w' := W.alloc (.cells #[.slice A1 one.length c1] 25)) (v := .slice (some ⟨W.heap.size, 0, none⟩) 1 1) (by simp only [execOp]; go_simp) ⟨γ, NewMem.alloc _ _, trivial, _, _, rfl, (rdl_one 25 (HO.out.below (newT_nm hT)) HOC rfl).mono fun _ _ _ => trivial, Nat.le_refl _⟩
      · refine owes_ifG rfl rfl (fun v w γ h => h) fun dn a W γ hT hdn hdp hJ hf hd => ?_
        obtain ⟨v31, d31, rfl⟩ := hd 31 rfl
        obtain ⟨v32, d32, rfl⟩ := hd 32 rfl
        obtain ⟨v34, d34, A34, c34, rfl, r34, k34⟩ := hd 34 rfl
        refine step_call (w' := W) (f := 17) (args := #[.agg KC, .string s, .slice A34 1 c34]) (by simp only [execOp]; go_simp) ?_
        rw [HKC ()]
        refine (smark_calls key (HK ()) s (by omega) A34 [one] c34 W (fun _ => True) r34 k34 (HG5.out.below (newT_nm hT)) (by simp; omega) (by simp)).mono ?_
        rintro e w' ⟨rfl, hb⟩
        exact ⟨_, rfl, γ, hb, trivial, by rw [HZ ()]; show Value.agg _ = Value.agg _; rw [MK34 ()]⟩
      · refine owes_ifG rfl rfl (fun v w γ h => h) fun dn a W γ hT hdn hdp hJ hf hd => ?_
        obtain ⟨v30, d30, rfl⟩ := hd 30 rfl
        obtain ⟨v35, d35, rfl⟩ := hd 35 rfl
        have hq := heqz W
        exact step_val (w' := W) (by simp only [execOp]; go_simp) ⟨γ, newT_refl _ _, trivial, rfl⟩
      · refine owes_plainG rfl fun dn a W γ hT hdn hdp hJ hf hd => ?_
        obtain ⟨v24, d24, rfl⟩ := hd 24 rfl
        obtain ⟨v36, d36, rfl⟩ := hd 36 rfl
        exact step_val (w' := W) (by simp only [execOp]; go_simp) ⟨γ, newT_refl _ _, trivial, rfl⟩
      · refine owes_plainG rfl fun dn a W γ hT hdn hdp hJ hf hd => ?_
        obtain ⟨v37, d37, rfl⟩ := hd 37 rfl
        exact step_val (w' := W) (by simp only [execOp]; go_simp) ⟨γ, newT_refl _ _, trivial, rfl⟩
      · exact hp 38 rfl
      · intro vs W γ hT hvs
        simp only [laid, Nat.reduceAdd, hvs]
        go_wp2_with fail
        go_ret
        exact ⟨rfl, NewMem.trans _ _ _ n5 (newT_nm hT)⟩
end Go.Proofs.YtbhaekdfpfncnaaDoor
