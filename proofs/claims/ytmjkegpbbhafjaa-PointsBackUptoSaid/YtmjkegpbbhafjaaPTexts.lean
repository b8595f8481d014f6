/- Plain laws of chapter 4: what is shown is read, what is read is shown. -/
import Derived.Test.YtmjkegpbbhafjaaPLives
set_option linter.unusedVariables false
namespace Go.FK
open Go Go.RowKit
theorem hexTab_dig : ∀ d : Nat, d < 16 → digitV (hexTab.getD d 0).toNat = (d : Int) := by decide
theorem hexTab_dot : ∀ d : Nat, d < 16 → hexTab.getD d 0 ≠ 46 := by decide
theorem hexTab_zero : ∀ d : Nat, d < 16 → hexTab.getD d 0 = 48 → d = 0 := by decide
theorem digs_cons (n l : Nat) : digsD n (l + 1) = hexDig n l :: digsD n l := by
  unfold digsD; rw [List.range_succ, List.map_append, List.reverse_append]; rfl
theorem hexDig_dig (n l : Nat) : digitV (hexDig n l).toNat = ((n / 16 ^ l % 16 : Nat) : Int) := hexTab_dig _ (Nat.mod_lt _ (by omega))
theorem hexV_digs (n : Nat) : ∀ (l m : Nat), hexV (digsD n l) m = some (m * 16 ^ l + n % 16 ^ l)
  | 0, m => by simp [digsD, hexV]; omega
  | l + 1, m => by
    rw [digs_cons, hexV, hexDig_dig, if_neg (by omega), hexV_digs n l, Int.toNat_natCast, Nat.mod_pow_succ, Nat.pow_succ]
    congr 1
    generalize n / 16 ^ l % 16 = q
    generalize n % 16 ^ l = r
    rw [Nat.add_mul, Nat.mul_comm (16 ^ l) q, Nat.mul_comm (16 ^ l) 16, ← Nat.mul_assoc, Nat.mul_comm m 16]
    omega
theorem cnt_pow {n : Nat} (h : n ≤ 1114111) : n < 16 ^ cntD n := by
  unfold cntD
  split
  · simpa using by assumption
  · split
    · simpa using by assumption
    · simp; omega
theorem digs_first {n : Nat} (h : n ≤ 1114111) (h4 : 4 < cntD n) : ∃ c, (digsD n (cntD n))[0]? = some c ∧ c.toNat ≠ 48 := by
  obtain ⟨k, hk⟩ : ∃ k, cntD n = k + 1 := ⟨cntD n - 1, by omega⟩
  refine ⟨hexDig n k, by rw [hk, digs_cons]; rfl, ?_⟩
  intro e
  have e2 : hexDig n k = 48 := UInt8.toNat_inj.1 e
  have h0 := hexTab_zero _ (Nat.mod_lt (n / 16 ^ k) (by omega)) e2
  unfold cntD at hk h4
  split at hk
  · rename_i h5; rw [if_pos h5] at h4; omega
  · split at hk
    · obtain rfl : k = 4 := by omega
      simp at h0; omega
    · obtain rfl : k = 5 := by omega
      simp at h0; omega
theorem hex_show {r : Int} (h0 : 0 ≤ r) (h1 : r ≤ 1114111) : hexF (showF r).1 = (r, 0) := by
  rw [showF_ok h0 h1]
  have hn : r.toNat ≤ 1114111 := by omega
  have hc := cntD_le r.toNat
  have hv : hexV (digsD r.toNat (cntD r.toNat)) 0 = some r.toNat := by rw [hexV_digs, Nat.zero_mul, Nat.zero_add, Nat.mod_eq_of_lt (cnt_pow hn)]
  have := hexF_ok hv hn (by rw [digsD_len]; omega) (by rw [digsD_len]; omega) (by
    rw [digsD_len]
    rcases Nat.lt_or_ge 4 (cntD r.toNat) with h | h
    · exact .inr (digs_first hn h)
    · exact .inl h)
  rw [this, Int.toNat_of_nonneg h0]
theorem digit_char : ∀ c : UInt8, 0 ≤ digitV c.toNat → hexTab.getD (digitV c.toNat).toNat 0 = c := by
  intro c h
  have hib := ibF_tab c
  have key : (List.range 256).all (fun n => decide (digitV n < 0) || hexTab.getD (digitV n).toNat 0 == UInt8.ofNat n) = true := by kernel_rfl
  have h2 := List.all_eq_true.1 key c.toNat (List.mem_range.2 (by have := c.toNat_lt; omega))
  simp only [Bool.or_eq_true, decide_eq_true_eq, beq_iff_eq] at h2
  rcases h2 with h2 | h2
  · omega
  · rw [h2]; simp
theorem hexV_back : ∀ (s : List UInt8) (m n : Nat), hexV s m = some n → s = digsD n s.length ∧ n / 16 ^ s.length = m
  | [], m, n, h => by simp [hexV] at h; subst h; simp [digsD]
  | c :: l, m, n, h => by
    rw [hexV] at h
    split at h
    · cases h
    · rename_i hd
      obtain ⟨h1, h2⟩ := hexV_back l _ _ h
      have hr := digitV_range c.toNat
      refine ⟨?_, ?_⟩
      · rw [List.length_cons, digs_cons, ← h1]
        congr 1
        unfold hexDig
        rw [h2, show (16 * m + (digitV c.toNat).toNat) % 16 = (digitV c.toNat).toNat by omega]
        exact (digit_char c (by omega)).symm
      · rw [List.length_cons, Nat.pow_succ, ← Nat.div_div_eq_div_mul, h2]; omega
theorem hexF_inv {s : List UInt8} (h : (hexF s).2 = 0) : ∃ n : Nat, hexF s = ((n : Int), 0) ∧ hexV s 0 = some n ∧ n ≤ 1114111 ∧ 4 ≤ s.length ∧ s.length ≤ 6 ∧ (s.length ≤ 4 ∨ s.getD 0 0 ≠ 48) := by
  unfold hexF at h ⊢
  split at h
  · simp at h
  · rename_i h1
    cases hv : hexV s 0 with
    | none => rw [hv] at h; simp at h
    | some n =>
      rw [hv] at h
      simp only at h
      split at h
      · simp at h
      · rename_i h2
        refine ⟨n, ?_, rfl, by omega, by omega, by omega, ?_⟩
        · rw [if_neg h1]; simp only; rw [if_neg h2]
        · rcases Nat.lt_or_ge 4 s.length with h3 | h3
          · exact .inr (fun e => h1 (.inr ⟨h3, e⟩))
          · exact .inl h3
theorem show_hex {s : List UInt8} (h : (hexF s).2 = 0) : showF (hexF s).1 = (s, 0) ∧ 0 ≤ (hexF s).1 ∧ (hexF s).1 ≤ 1114111 := by
  obtain ⟨n, he, hv, hn, h4, h6, hz⟩ := hexF_inv h
  rw [he]
  refine ⟨?_, by simp, by simp; omega⟩
  rw [showF_ok (by simp) (by simp; omega)]
  simp only [Int.toNat_natCast]
  obtain ⟨hs, h0⟩ := hexV_back s 0 n hv
  have hlt : n < 16 ^ s.length := by
    rcases Nat.lt_or_ge n (16 ^ s.length) with h1 | h1
    · exact h1
    · have := Nat.div_pos h1 (Nat.pow_pos (n := s.length) (show 0 < 16 by omega)); omega
  have hc : cntD n = s.length := by
    rcases hz with hz | hz
    · have e : s.length = 4 := by omega
      rw [e] at hlt ⊢
      unfold cntD; rw [if_pos (by simpa using hlt)]
    · obtain ⟨k, hk⟩ : ∃ k, s.length = k + 1 := ⟨s.length - 1, by omega⟩
      rw [hk, digs_cons] at hs
      have hd : hexDig n k ≠ 48 := by rw [hs] at hz; simpa using hz
      have hq : n / 16 ^ k % 16 ≠ 0 := fun e => hd (by unfold hexDig; rw [e]; rfl)
      rw [hk] at hlt
      have e : s.length = 4 ∨ s.length = 5 ∨ s.length = 6 := by omega
      unfold cntD
      rcases e with e | e | e
      · obtain rfl : k = 3 := by omega
        simp at hlt; rw [if_pos (by omega)]; omega
      · obtain rfl : k = 4 := by omega
        simp at hlt hq; rw [if_neg (by omega), if_pos (by omega)]; omega
      · obtain rfl : k = 5 := by omega
        simp at hlt hq; rw [if_neg (by omega), if_neg (by omega)]; omega
  rw [hc, ← hs]
theorem digs_nodot (n : Nat) : ∀ l, ∀ c ∈ digsD n l, c ≠ 46
  | 0, c, h => by simp [digsD] at h
  | l + 1, c, h => by
    rw [digs_cons] at h
    rcases List.mem_cons.1 h with rfl | h
    · exact hexTab_dot _ (Nat.mod_lt _ (by omega))
    · exact digs_nodot n l c h
theorem show_nodot (r : Int) : ∀ c ∈ (showF r).1, c ≠ 46 := by
  unfold showF
  split
  · simp
  · exact digs_nodot _ _
theorem getD_mem {s : List UInt8} {i : Nat} (h : i < s.length) : s.getD i 0 ∈ s := by
  rw [List.getD_eq_getElem?_getD, List.getElem?_eq_getElem h]; exact List.getElem_mem h
theorem dots_nodot {s : List UInt8} (h : ∀ c ∈ s, c ≠ 46) : ∀ (k i : Nat), s.length - i ≤ k → dotsFrom s i = none := by
  intro k
  induction k with
  | zero => intro i hk; exact dotsFrom_end (by omega)
  | succ k ih =>
    intro i hk
    rcases Nat.lt_or_ge (i + 1) s.length with h1 | h1
    · rw [dotsFrom_step h1, if_neg (fun e => h _ (getD_mem (by omega)) e.1)]
      exact ih (i + 1) (by omega)
    · exact dotsFrom_end h1
theorem dots_at {a b : List UInt8} (h : ∀ c ∈ a, c ≠ 46) : ∀ (k i : Nat), a.length - i ≤ k → i ≤ a.length → dotsFrom (a ++ [46, 46] ++ b) i = some a.length := by
  intro k
  have hl : (a ++ [46, 46] ++ b).length = a.length + 2 + b.length := by simp; omega
  have here : dotsFrom (a ++ [46, 46] ++ b) a.length = some a.length := by
    rw [dotsFrom_step (by omega), if_pos ⟨by simp, by simp⟩]
  induction k with
  | zero =>
    intro i hk hi
    obtain rfl : i = a.length := by omega
    exact here
  | succ k ih =>
    intro i hk hi
    rcases Nat.lt_or_ge i a.length with h1 | h1
    · rw [dotsFrom_step (by omega), if_neg]
      · exact ih (i + 1) (by omega) (by omega)
      · intro e
        refine h _ (getD_mem h1) ?_
        have e1 := e.1
        rw [List.getD_eq_getElem?_getD, List.append_assoc, List.getElem?_append_left h1] at e1
        rw [List.getD_eq_getElem?_getD]; exact e1
    · obtain rfl : i = a.length := by omega
      exact here
theorem span_show {lo hi : Int} (h : mayF lo hi = true) : spanF (showSpanF lo hi).1 = (lo, hi, 0) := by
  obtain ⟨h1, h2, h3⟩ := mayF_b h
  rcases Int.lt_or_le lo hi with h4 | h4
  · rw [showSpan_two h (by omega)]
    have hd := dots_at (b := (showF hi).1) (show_nodot lo) _ 0 (Nat.le_refl _) (Nat.zero_le _)
    rw [span_some hd]
    have e1 : List.take (showF lo).1.length ((showF lo).1 ++ [46, 46] ++ (showF hi).1) = (showF lo).1 := by rw [List.append_assoc, List.take_left]
    have e2 : List.drop ((showF lo).1.length + 2) ((showF lo).1 ++ [46, 46] ++ (showF hi).1) = (showF hi).1 := by
      rw [show (showF lo).1.length + 2 = ((showF lo).1 ++ [46, 46]).length by simp, List.drop_left]
    rw [e1, e2, hex_show h1 (by omega), hex_show (by omega) h3]
    simp only
    rw [if_neg (by simp), if_neg (by omega)]
  · obtain rfl : lo = hi := by omega
    rw [showSpan_one h rfl, span_none (dots_nodot (show_nodot lo) _ 0 (Nat.le_refl _)), hex_show h1 h3]
    simp
theorem dots_cut {s : List UInt8} {a : Nat} : ∀ (k i : Nat), s.length - i ≤ k → dotsFrom s i = some a → s = s.take a ++ [46, 46] ++ s.drop (a + 2) := by
  intro k
  induction k with
  | zero => intro i hk h; rw [dotsFrom_end (by omega)] at h; cases h
  | succ k ih =>
    intro i hk h
    rcases Nat.lt_or_ge (i + 1) s.length with h1 | h1
    · rw [dotsFrom_step h1] at h
      split at h
      · rename_i he
        obtain rfl : i = a := Option.some.inj h
        have e1 : s.drop i = 46 :: 46 :: s.drop (i + 2) := by
          rw [List.drop_eq_getElem_cons (by omega), List.drop_eq_getElem_cons (by omega)]
          have f1 := he.1
          have f2 := he.2
          rw [List.getD_eq_getElem?_getD, List.getElem?_eq_getElem (by omega)] at f1 f2
          simp only [Option.getD_some] at f1 f2
          rw [f1, f2]
        calc s = s.take i ++ s.drop i := (List.take_append_drop i s).symm
          _ = _ := by rw [e1]; simp
      · exact ih (i + 1) (by omega) h
    · rw [dotsFrom_end h1] at h; cases h
theorem show_span {s : List UInt8} (h : (spanF s).2.2 = 0) (hg : (spanF s).1 ≠ (spanF s).2.1 ∨ s.length ≤ 6) : showSpanF (spanF s).1 (spanF s).2.1 = (s, 0) := by
  cases hd : dotsFrom s 0 with
  | none =>
    rw [span_none hd] at h ⊢
    split at h
    · rename_i h1; exact absurd h h1
    · rename_i h1
      have h0 : (hexF s).2 = 0 := by simpa using h1
      rw [if_neg h1]
      obtain ⟨e, e0, e1⟩ := show_hex h0
      simp only
      rw [showSpan_one (mayF_true e0 (Int.le_refl _) e1) rfl, e]
  | some a =>
    have hs := dots_cut _ 0 (Nat.le_refl _) hd
    rw [span_some hd] at h hg ⊢
    split at h
    · simp at h
    · rename_i h1
      split at h
      · simp at h
      · rename_i h2
        rw [if_neg h1, if_neg h2] at hg ⊢
        have ha : (hexF (s.take a)).2 = 0 := by by_cases e : (hexF (s.take a)).2 = 0; exact e; exact absurd (.inl e) h1
        have hb : (hexF (s.drop (a + 2))).2 = 0 := by by_cases e : (hexF (s.drop (a + 2))).2 = 0; exact e; exact absurd (.inr e) h1
        obtain ⟨e1, b0, b1⟩ := show_hex ha
        obtain ⟨e2, c0, c1⟩ := show_hex hb
        simp only at hg ⊢
        have hne : (hexF (s.take a)).1 ≠ (hexF (s.drop (a + 2))).1 := by
          rcases hg with hg | hg
          · exact hg
          · exfalso
            obtain ⟨_, _, _, _, l1, _, _⟩ := hexF_inv ha
            obtain ⟨_, _, _, _, l2, _, _⟩ := hexF_inv hb
            simp only [List.length_take, List.length_drop] at l1 l2
            omega
        rw [showSpan_two (mayF_true b0 (by omega) c1) hne, e1, e2, ← hs]
theorem span_ok {lo hi : Int} : (showSpanF lo hi).2 = 0 ↔ mayF lo hi = true := by
  cases h : mayF lo hi
  · rw [showSpan_bad h]; simp
  · by_cases e : lo = hi
    · rw [showSpan_one h e]; simp
    · rw [showSpan_two h e]; simp
theorem show_ok {r : Int} (h : (showF r).2 = 0) : 0 ≤ r ∧ r ≤ 1114111 := by
  unfold showF at h
  split at h
  · simp at h
  · omega
theorem show_len4 {r : Int} (h : (showF r).2 = 0) : 4 ≤ (showF r).1.length := by
  obtain ⟨h1, h2⟩ := show_ok h
  rw [showF_ok h1 h2]
  simp only [digsD_len]; exact (cntD_le _).1
end Go.FK
namespace Go.FK
theorem showSpan_len (lo hi : Int) : (showSpanF lo hi).1.length ≤ 14 := by
  have h1 := showF_len lo
  have h2 := showF_len hi
  unfold showSpanF
  split
  · simp
  · split
    · simp only; omega
    · simp only [List.length_append, List.length_cons, List.length_nil]; omega
end Go.FK
