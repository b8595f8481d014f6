/- Plain functions of chapter 9: a text with mirrors in place of what has one. -/
import Derived.Test.YtjdcmeoiommglaaDoorPMir
set_option linter.unusedVariables false
namespace Go.FK
open Go Go.RowKit
/-! ### a character read is written as it was -/
theorem td_cons {s : List UInt8} {p k : Nat} (h : p < s.length) : (s.drop p).take (k + 1) = s.getD p 0 :: (s.drop (p + 1)).take k := by
  rw [List.drop_eq_getElem_cons h, List.take_succ_cons, List.getD_eq_getElem?_getD, List.getElem?_eq_getElem h]; rfl
theorem u8eq {n : Nat} {c : UInt8} (h : n = c.toNat) : UInt8.ofNat n = c := by subst h; exact UInt8.ofNat_toNat
theorem scal {n : Nat} (h : n ≤ 1114111) (h2 : n < 55296 ∨ 57343 < n) : scalarB (n : Int) = true := by simp [scalarB]; omega
theorem enc_dec {s : List UInt8} {p : Nat} (h : p < s.length) (hw : wrongC (p, (dec s p).2, (dec s p).1) = false) : encL [((dec s p).1 : Int)] = (s.drop p).take (dec s p).2 := by
  have hw : ¬ ((dec s p).1 = 65533 ∧ (dec s p).2 ≠ 3) := of_decide_eq_false hw
  have hf := dec_fits s p h
  have h0 := (s.getD p 0).toNat_lt
  have h1 := (s.getD (p + 1) 0).toNat_lt
  have h2 := (s.getD (p + 1 + 1) 0).toNat_lt
  have h3 := (s.getD (p + 1 + 1 + 1) 0).toNat_lt
  revert hw hf
  rw [dec_at']
  rw [show p + 2 = p + 1 + 1 from rfl, show p + 3 = p + 1 + 1 + 1 from rfl]
  unfold Lib.decodeN
  split
  · intro hw hf
    simp only at hf ⊢
    rw [enc_ok (scal (by omega) (by omega)) rfl, if_pos (by omega), td_cons h, List.take_zero, u8eq rfl]
  · split
    · split
      · intro hw hf
        simp only at hf ⊢
        rw [enc_ok (scal (by omega) (by omega)) rfl, if_neg (by omega), if_pos (by omega), td_cons h, td_cons (by omega), List.take_zero, u8eq (c := s.getD p 0) (by omega), u8eq (c := s.getD (p + 1) 0) (by omega)]
      · intro hw hf; exact absurd ⟨rfl, by simp⟩ hw
    · split
      · split
        · intro hw hf
          simp only at hf ⊢
          rw [enc_ok (scal (by omega) (by omega)) rfl, if_neg (by omega), if_neg (by omega), if_pos (by omega), td_cons h, td_cons (by omega), td_cons (by omega), List.take_zero, u8eq (c := s.getD p 0) (by omega), u8eq (c := s.getD (p + 1) 0) (by omega), u8eq (c := s.getD (p + 1 + 1) 0) (by omega)]
        · intro hw hf; exact absurd ⟨rfl, by simp⟩ hw
      · split
        · split
          · intro hw hf
            simp only at hf ⊢
            rw [enc_ok (scal (by omega) (by omega)) rfl, if_neg (by omega), if_neg (by omega), if_neg (by omega), td_cons h, td_cons (by omega), td_cons (by omega), td_cons (by omega), List.take_zero, u8eq (c := s.getD p 0) (by omega), u8eq (c := s.getD (p + 1) 0) (by omega), u8eq (c := s.getD (p + 1 + 1) 0) (by omega), u8eq (c := s.getD (p + 1 + 1 + 1) 0) (by omega)]
          · intro hw hf; exact absurd ⟨rfl, by simp⟩ hw
        · intro hw hf; exact absurd ⟨rfl, by simp⟩ hw
theorem wrong_one {s : List UInt8} {p : Nat} (hw : wrongC (p, (dec s p).2, (dec s p).1) = true) : (dec s p).1 = 65533 ∧ (dec s p).2 = 1 := by
  have hw : (dec s p).1 = 65533 ∧ (dec s p).2 ≠ 3 := of_decide_eq_true hw
  refine ⟨hw.1, ?_⟩
  revert hw
  rw [dec_at']
  unfold Lib.decodeN
  repeat' split
  all_goals (intro hw; first | rfl | (exfalso; have h1 := hw.1; have h2 := hw.2; dsimp only at h1 h2; omega))
theorem wr_yes {s : List UInt8} {p : Nat} {c : Int} (hc : c = ((dec s p).1 : Nat)) (h : c = 65533) (hp : hpB (s.drop p) (encL [c]) = false) : wrongC (p, (dec s p).2, (dec s p).1) = true := by
  rw [← wrong_eq, ← hc]
  unfold wrongB; rw [hp, decide_eq_true h]; rfl
theorem wr_no1 {s : List UInt8} {p : Nat} {c : Int} (hc : c = ((dec s p).1 : Nat)) (h : c ≠ 65533) : wrongC (p, (dec s p).2, (dec s p).1) = false := by
  rw [← wrong_eq, ← hc]
  unfold wrongB; rw [decide_eq_false h]; rfl
theorem wr_no2 {s : List UInt8} {p : Nat} {c : Int} (hc : c = ((dec s p).1 : Nat)) (hp : hpB (s.drop p) (encL [c]) = true) : wrongC (p, (dec s p).2, (dec s p).1) = false := by
  rw [← wrong_eq, ← hc]
  unfold wrongB; rw [hp]; simp
/-! ### the text -/
def ofM (M : List (Int × Int)) (r : Int) : Int × Bool := (if (mget M r).isSome = true then (mget M r).getD 0 else r, (mget M r).isSome)
theorem ofM_of (l : List Mir) (r : Int) : ofM (firstM l) r = ofF l r := (ofM_eq l r).symm
theorem ofM_y {M : List (Int × Int)} {r : Int} (h : (mget M r).isSome = true) : ofM M r = ((mget M r).getD 0, true) := by unfold ofM; rw [if_pos h, h]
theorem ofM_n {M : List (Int × Int)} {r : Int} (h : (mget M r).isSome = false) : ofM M r = (r, false) := by unfold ofM; rw [if_neg (by rw [h]; decide), h]
abbrev Chr := Nat × Nat × Int × Bool
def chT (M : List (Int × Int)) (s : List UInt8) (c : Chr) : List UInt8 × Nat :=
  if c.2.2.2 = true ∧ (ofM M c.2.2.1).2 = true then (encL [(ofM M c.2.2.1).1], 1) else ((s.take (c.1 + c.2.1)).drop c.1, 0)
def txtF (M : List (Int × Int)) (s : List UInt8) : List Chr → List UInt8 × Nat
  | [] => ([], 0)
  | c :: l => ((chT M s c).1 ++ (txtF M s l).1, (chT M s c).2 + (txtF M s l).2)
def mtextF (l : List Mir) (s : List UInt8) : List UInt8 × Nat := txtF (firstM l) s (chF s)
theorem txt_app (M : List (Int × Int)) (s : List UInt8) : ∀ (a b : List Chr), txtF M s (a ++ b) = ((txtF M s a).1 ++ (txtF M s b).1, (txtF M s a).2 + (txtF M s b).2)
  | [], b => by simp [txtF]
  | c :: a, b => by rw [List.cons_append, txtF, txt_app M s a b, txtF]; simp [Nat.add_assoc]
section
variable {M : List (Int × Int)} {s acc : List UInt8} {p n : Nat} {c : Int}
def txI (M : List (Int × Int)) (s : List UInt8) (p : Nat) (acc : List UInt8) (n : Nat) : Prop :=
  acc ++ (txtF M s ((charsFrom s p).map fulC)).1 = (txtF M s (chF s)).1 ∧ n + (txtF M s ((charsFrom s p).map fulC)).2 = (txtF M s (chF s)).2
theorem tx_zero (M : List (Int × Int)) (s : List UInt8) : txI M s 0 [] 0 := ⟨rfl, by simp [chF]⟩
theorem tx_step (h : p < s.length) (hi : txI M s p acc n) {x : List UInt8} {k : Nat} (hx : chT M s (fulC (p, (dec s p).2, (dec s p).1)) = (x, k)) : txI M s (p + (dec s p).2) (acc ++ x) (n + k) := by
  obtain ⟨h1, h2⟩ := hi
  rw [charsFrom_step h, List.map_cons, txtF, hx] at h1 h2
  exact ⟨by rw [← h1]; simp, by rw [← h2]; simp only; omega⟩
theorem own_eq (h : p < s.length) : (s.take (p + (dec s p).2)).drop p = (s.drop p).take (dec s p).2 := by
  rw [List.drop_take]; congr 1; omega
theorem tx_wrong {b : UInt8} (h : p < s.length) (hw : wrongC (p, (dec s p).2, (dec s p).1) = true) (hb : s[p]? = some b) (hi : txI M s p acc n) : txI M s (p + (dec s p).2) (acc ++ [b]) n := by
  have hx : chT M s (fulC (p, (dec s p).2, (dec s p).1)) = ([b], 0) := by
    unfold chT fulC
    rw [if_neg (by rw [hw]; simp)]
    show ((s.take (p + (dec s p).2)).drop p, 0) = _
    rw [own_eq h, (wrong_one hw).2, td_cons h, List.take_zero, List.getD_eq_getElem?_getD, hb]; rfl
  have := tx_step h hi hx
  rwa [Nat.add_zero] at this
theorem tx_yes (hc : c = ((dec s p).1 : Nat)) (h : p < s.length) (hw : wrongC (p, (dec s p).2, (dec s p).1) = false) (hm : (ofM M c).2 = true) (hi : txI M s p acc n) : txI M s (p + (dec s p).2) (acc ++ encL [(ofM M c).1]) (n + 1) := by
  refine tx_step h hi ?_
  unfold chT fulC
  simp only
  rw [← hc, if_pos ⟨by rw [hw]; rfl, hm⟩]
theorem ofM_not_fst (h : (ofM M c).2 = false) : (ofM M c).1 = c := by
  unfold ofM at h ⊢
  simp only at h ⊢
  rw [if_neg (by rw [h]; decide)]
theorem tx_no (hc : c = ((dec s p).1 : Nat)) (h : p < s.length) (hw : wrongC (p, (dec s p).2, (dec s p).1) = false) (hm : (ofM M c).2 = false) (hi : txI M s p acc n) : txI M s (p + (dec s p).2) (acc ++ encL [(ofM M c).1]) n := by
  have hx : chT M s (fulC (p, (dec s p).2, (dec s p).1)) = (encL [(ofM M c).1], 0) := by
    unfold chT fulC
    simp only
    rw [← hc, if_neg (by rw [hm]; simp), own_eq h, ofM_not_fst hm, ← enc_dec h hw, hc]
  have := tx_step h hi hx
  rwa [Nat.add_zero] at this
theorem tx_end (h : s.length ≤ p) (hi : txI M s p acc n) : txtF M s (chF s) = (acc, n) := by
  obtain ⟨h1, h2⟩ := hi
  rw [charsFrom_end h] at h1 h2
  simp only [List.map_nil, txtF, List.append_nil, Nat.add_zero] at h1 h2
  rw [h1, h2]
end
theorem ch_len (M : List (Int × Int)) (s : List UInt8) (c : Chr) : (chT M s c).1.length ≤ s.length + 4 ∧ (chT M s c).2 ≤ 1 := by
  unfold chT
  split
  · have := encL1_len (ofM M c.2.2.1).1
    simp only; omega
  · simp only [List.length_drop, List.length_take]; omega
theorem first_newW {l : List Mir} {i : Nat} {m : Mir} {W : List (Int × Int)} (hW : W = firstM (l.take i)) (hm : l[i]? = some m) (hw : (mget W m.2.1).isSome = false) : W ++ [(m.2.1, m.2.2.1)] = firstM (l.take (i + 1)) := by subst hW; exact first_new hm hw
theorem first_oldW {l : List Mir} {i : Nat} {m : Mir} {W : List (Int × Int)} (hW : W = firstM (l.take i)) (hm : l[i]? = some m) (hw : (mget W m.2.1).isSome = true) : W = firstM (l.take (i + 1)) := by subst hW; exact first_old hm hw
/-! ### the reference -/
section
variable {M : List (Int × Int)} {s acc own : List UInt8} {i n : Nat} {x : Chr}
theorem rt_snoc (hx : (chF s)[i]? = some x) (h : txtF M s ((chF s).take i) = (acc, n)) {k : Nat} (hc : chT M s x = (own, k)) : txtF M s ((chF s).take (i + 1)) = (acc ++ own, n + k) := by
  rw [take_at hx, txt_app, h]
  simp only [txtF, hc, List.append_nil, Nat.add_zero]
theorem ct_yes (h1 : x.2.2.2 = true) (h2 : (ofM M x.2.2.1).2 = true) : chT M s x = (encL [(ofM M x.2.2.1).1], 1) := by unfold chT; rw [if_pos ⟨h1, h2⟩]
theorem ct_no1 (h1 : x.2.2.2 = false) : chT M s x = ((s.take (x.1 + x.2.1)).drop x.1, 0) := by unfold chT; rw [if_neg (by rw [h1]; simp)]
theorem ct_no2 (h2 : (ofM M x.2.2.1).2 = false) : chT M s x = ((s.take (x.1 + x.2.1)).drop x.1, 0) := by unfold chT; rw [if_neg (by rw [h2]; simp)]
theorem rt_end (h : txtF M s ((chF s).take i) = (acc, n)) (hi : (chF s).length ≤ i) : txtF M s (chF s) = (acc, n) := by rw [List.take_of_length_le hi] at h; exact h
end
theorem chF_fits {s : List UInt8} {i : Nat} {x : Chr} (h : (chF s)[i]? = some x) : x.1 + x.2.1 ≤ s.length := by
  obtain ⟨c, hc, rfl⟩ := chF_at h
  have h1 := chars_next hc
  exact h1.1
/-- A character is four bytes wide at most. -/
theorem dec_w4 (s : List UInt8) (p : Nat) : (dec s p).2 ≤ 4 := by
  rw [dec_at']; unfold Lib.decodeN
  repeat' split
  all_goals (dsimp only; omega)
theorem charsN_w (s : List UInt8) : ∀ (n p : Nat), ∀ c ∈ charsN s n p, c.2.1 ≤ 4
  | 0, p, c, h => by cases h
  | n + 1, p, c, h => by
    rw [charsN] at h
    split at h
    · rcases List.mem_cons.1 h with rfl | h
      · exact dec_w4 s p
      · exact charsN_w s n _ c h
    · cases h
theorem chF_w {s : List UInt8} {i : Nat} {x : Chr} (h : (chF s)[i]? = some x) : x.2.1 ≤ 4 := by
  obtain ⟨c, hc, rfl⟩ := chF_at h
  exact charsN_w s _ _ c (List.mem_of_getElem? hc)
theorem of_rng {l : List Mir} (h : ∀ m ∈ l, -2147483648 ≤ m.2.2.1 ∧ m.2.2.1 ≤ 2147483647) {r : Int} (hr : -2147483648 ≤ r ∧ r ≤ 2147483647) : -2147483648 ≤ (ofF l r).1 ∧ (ofF l r).1 ≤ 2147483647 := by
  unfold ofF
  cases hq : mget (prs l) r with
  | none => exact hr
  | some y =>
    obtain ⟨m, hm, e⟩ := List.mem_map.1 (mget_some hq)
    simp only [Prod.mk.injEq] at e
    have := h m hm
    rw [e.2] at this; exact this
theorem one_rng {x y : Int} (h : -2147483648 ≤ x ∧ x ≤ 2147483647) (hy : y ∈ [x]) : -2147483648 ≤ y ∧ y ≤ 2147483647 := by
  rw [List.mem_singleton.1 hy]; exact h
section
variable {l : List Mir} {s : List UInt8} {x : Chr}
theorem ctl_yes (h1 : x.2.2.2 = true) (h2 : (ofF l x.2.2.1).2 = true) : chT (firstM l) s x = (encL [(ofF l x.2.2.1).1], 1) := by rw [← ofM_of] at h2 ⊢; exact ct_yes h1 h2
theorem ctl_no (h2 : (ofF l x.2.2.1).2 = false) : chT (firstM l) s x = ((s.take (x.1 + x.2.1)).drop x.1, 0) := by rw [← ofM_of] at h2; exact ct_no2 h2
end
/-! ### printed -/
def bestN : List UInt8 := [32, 35, 32, 91, 66, 69, 83, 84, 32, 70, 73, 84, 93]
def mlineF (m : Mir) : List UInt8 := (showF m.2.1).1 ++ [59, 32] ++ (showF m.2.2.1).1 ++ (if m.2.2.2 = true then bestN else []) ++ [10]
def mbodyF (l : List Mir) : List UInt8 := l.flatMap mlineF
def mprintF (l : List Mir) : List UInt8 × Int := if (mcheckF l).2 ≠ 0 then ([], (mcheckF l).2) else (mbodyF l, 0)
theorem mp_bad {l : List Mir} (h : (mcheckF l).2 ≠ 0) : mprintF l = ([], (mcheckF l).2) := by unfold mprintF; rw [if_pos h]
theorem mp_ok {l : List Mir} (h : (mcheckF l).2 = 0) : mprintF l = (mbodyF l, 0) := by unfold mprintF; rw [if_neg (by omega)]
theorem mline_len (m : Mir) : (mlineF m).length ≤ 28 := by
  have h1 := showF_len m.2.1
  have h2 := showF_len m.2.2.1
  unfold mlineF bestN
  simp only [List.length_append, List.length_cons, List.length_nil]
  split <;> simp <;> omega
theorem mbody_len : ∀ l : List Mir, (mbodyF l).length ≤ 28 * l.length
  | [] => by simp [mbodyF]
  | m :: l => by
    have h1 := mline_len m
    have h2 := mbody_len l
    unfold mbodyF at h2 ⊢
    rw [List.flatMap_cons, List.length_append, List.length_cons]; omega
theorem mbody_snoc {l : List Mir} {i : Nat} {m : Mir} (h : l[i]? = some m) : mbodyF (l.take (i + 1)) = mbodyF (l.take i) ++ mlineF m := by
  unfold mbodyF; rw [take_at h, List.flatMap_append]; simp
theorem mp_yes {l : List Mir} {i : Nat} {m : Mir} {acc : List UInt8} (hi : acc = mbodyF (l.take i)) (h : l[i]? = some m) (hb : m.2.2.2 = true) : ((acc ++ (((showF m.2.1).1 ++ [59, 32]) ++ (showF m.2.2.1).1)) ++ bestN) ++ [10] = mbodyF (l.take (i + 1)) := by
  rw [mbody_snoc h, hi]; unfold mlineF; rw [if_pos hb]; simp
theorem mp_no {l : List Mir} {i : Nat} {m : Mir} {acc : List UInt8} (hi : acc = mbodyF (l.take i)) (h : l[i]? = some m) (hb : m.2.2.2 = false) : (acc ++ (((showF m.2.1).1 ++ [59, 32]) ++ (showF m.2.2.1).1)) ++ [10] = mbodyF (l.take (i + 1)) := by
  rw [mbody_snoc h, hi]; unfold mlineF; rw [if_neg (by rw [hb]; decide)]; simp
theorem mp_end {l : List Mir} {i : Nat} {acc : List UInt8} (hi : acc = mbodyF (l.take i)) (h : l.length ≤ i) : acc = mbodyF l := by rw [hi, List.take_of_length_le h]
theorem mp_len {l : List Mir} {i : Nat} {acc : List UInt8} (hi : acc = mbodyF (l.take i)) : acc.length ≤ 28 * l.length := by
  have := mbody_len (l.take i)
  rw [← hi] at this
  have h2 : (l.take i).length ≤ l.length := by rw [List.length_take]; omega
  omega
theorem mprint_len (l : List Mir) : (mprintF l).1.length ≤ 28 * l.length := by
  unfold mprintF; split
  · simp
  · exact mbody_len l
theorem mir_eq {x y : Mir} (h : x.1 = y.1 ∧ x.2.1 = y.2.1 ∧ x.2.2.1 = y.2.2.1 ∧ x.2.2.2 = y.2.2.2) : x = y := by
  obtain ⟨a, b, c, d⟩ := x; obtain ⟨a', b', c', d'⟩ := y
  simp only at h
  obtain ⟨rfl, rfl, rfl, rfl⟩ := h; rfl
theorem mir_ne {x y : Mir} (h : (x.1 == y.1 && x.2.1 == y.2.1 && x.2.2.1 == y.2.2.1 && x.2.2.2 == y.2.2.2) = false) : x ≠ y := by
  rintro rfl; simp at h
/-! ### a line's parts are no longer than the text -/
theorem splF_el (b : UInt8) : ∀ (s : List UInt8), ∀ x ∈ splF b s, x.length ≤ s.length
  | [], x, h => by rw [splF] at h; rw [List.mem_singleton.1 h]; exact Nat.le_refl _
  | c :: l, x, h => by
    rw [splF] at h
    rw [List.length_cons]
    split at h
    · rcases List.mem_cons.1 h with rfl | h
      · exact Nat.zero_le _
      · have := splF_el b l x h; omega
    · obtain ⟨p, r, e⟩ := splF_ne b l
      have ih := splF_el b l
      rw [e] at h ih
      rcases List.mem_cons.1 h with rfl | h
      · have := ih p List.mem_cons_self
        rw [List.length_cons]; omega
      · have := ih x (List.mem_cons_of_mem _ h); omega
theorem fields_el {s x : List UInt8} (h : x ∈ fieldsF s) : x.length ≤ s.length := by
  unfold fieldsF at h
  split at h
  · cases h
  · obtain ⟨y, hy, rfl⟩ := List.mem_map.1 h
    exact Nat.le_trans (trm_len _) (splF_el 59 s y hy)
theorem cut_el {s x : List UInt8} (h : x ∈ (cutF s).1) : x.length ≤ s.length := Nat.le_trans (fields_el (show x ∈ fieldsF (Lib.cut s [35]).1 from h)) (cutl_len s [35]).1
theorem ord_len (s : List UInt8) : (ordF s).2.1.length ≤ s.length := by
  have h1 := (cutl_len ((headF s).drop 1) [58]).2
  have h2 := headF_len s
  rw [List.length_drop] at h1
  unfold ordF; omega
theorem scan_parts {no : Int} {s : List UInt8} (n : Nat) (hs : s.length ≤ n) : (∀ x ∈ (scanF no s).1.2.2.2.1, x.length ≤ n) ∧ (scanF no s).1.2.2.2.2.length ≤ n := by
  have h1 : (noteF s).length ≤ n := Nat.le_trans (noteF_len s) hs
  have h9 : ((noteF s).drop 9).length ≤ n := by rw [List.length_drop]; omega
  have z : (∀ x ∈ zeroL.2.2.2.1, x.length ≤ n) ∧ zeroL.2.2.2.2.length ≤ n := ⟨fun x hx => (by cases hx), Nat.zero_le _⟩
  unfold scanF
  by_cases c1 : (chkF s).2 ≠ 0
  · rw [if_pos c1]; exact z
  · rw [if_neg c1]
    by_cases c2 : headF s = []
    · rw [if_pos c2]
      by_cases c3 : hpB (noteF s) missT = true
      · rw [if_pos c3]; exact ⟨fun x hx => Nat.le_trans (cut_el hx) h9, Nat.le_trans (cutF_len _) h9⟩
      · rw [if_neg c3]; exact ⟨fun x hx => (by cases hx), h1⟩
    · rw [if_neg c2]
      by_cases c3 : hpB (headF s) [64] = true
      · rw [if_pos c3]
        by_cases c4 : (ordF s).2.2 = false ∨ nameF (ordF s).1 = false
        · rw [if_pos c4]; exact z
        · rw [if_neg c4]; exact ⟨fun x hx => Nat.le_trans (fields_el hx) (Nat.le_trans (ord_len s) hs), h1⟩
      · rw [if_neg c3]; exact ⟨fun x hx => Nat.le_trans (cut_el hx) hs, h1⟩
theorem scan_ok {s : List UInt8} {xs : List LineV} {k : Nat} {x : LineV} (hs : s.length ≤ 1073741823) (h : xs.map stripL = linesF (toldF s)) (hx : xs[k]? = some x) : (∀ y ∈ x.fs, y.length ≤ 1073741824) ∧ x.2.2.2.2.length ≤ 1073741824 ∧ x.fs.length ≤ 1073741824 := by
  have h1 : stripL x ∈ linesF (toldF s) := by rw [← h]; exact List.mem_map_of_mem (List.mem_of_getElem? hx)
  unfold linesF at h1
  obtain ⟨y, hy, e⟩ := List.mem_map.1 h1
  have h2 := scan_parts (no := y.1) (s := y.2) 1073741824 (by have := told_short hy; omega)
  rw [e] at h2
  exact ⟨h2.1, h2.2, fs_len h hs x (List.mem_of_getElem? hx)⟩
def brackM : List Mir := [(0, 40, 41, false), (0, 41, 40, false), (0, 171, 187, false), (0, 187, 171, false)]
theorem snoc_mir {l : List Mir} {x y : Mir} (h : (l ++ [y])[l.length]? = some x) : x = y := by
  rw [List.getElem?_append_right (Nat.le_refl _), Nat.sub_self] at h
  exact (Option.some.inj h).symm
theorem mgo_len : ∀ (l : List LineD) (acc : List Mir), (mgo acc l).1.length ≤ acc.length + l.length
  | [], acc => by rw [mgo]; simp
  | x :: l, acc => by
    rw [mgo, List.length_cons]
    split
    · have := mgo_len l acc; omega
    · split
      · simp
      · have := mgo_len l (acc ++ [(mscL x).1])
        rw [List.length_append, List.length_singleton] at this; omega
theorem read_len (s : List UInt8) : (mreadF s).1.length ≤ s.length + 1 := by
  have h1 := mgo_len (linesF (toldF s)) []
  have h2 : (linesF (toldF s)).length = (toldF s).length := by unfold linesF; rw [List.length_map]
  have h3 := told_len s
  simp only [List.length_nil] at h1
  unfold mreadF
  repeat' split
  all_goals first | exact Nat.zero_le _ | (show (mgo [] (linesF (toldF s))).1.length ≤ _; omega)
end Go.FK
