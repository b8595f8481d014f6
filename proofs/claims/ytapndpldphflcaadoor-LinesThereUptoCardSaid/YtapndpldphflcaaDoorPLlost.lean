/- Plain laws of chapter 3: the mark and the lines, each with an end behind it, are the text. -/
import Derived.Test.YtapndpldphflcaaDoorPLeach
set_option linter.unusedVariables false
namespace Go.FK
open Go Go.RowKit
theorem some_eq {l : List UInt8} {i : Nat} {a b : UInt8} (h : l[i]? = some a) (h2 : l[i]? = some b) : a.toNat = b.toNat := by rw [h] at h2; cases h2; rfl
def nlAt (s : List UInt8) (p : Nat × Nat × Nat) : Prop :=
  (p.2.2 = p.2.1 + 1 ∧ ∃ c, s[p.2.1]? = some c ∧ c.toNat = 10) ∨ (p.2.2 = p.2.1 + 2 ∧ ∃ c d, s[p.2.1]? = some c ∧ c.toNat = 13 ∧ s[p.2.1 + 1]? = some d ∧ d.toNat = 10)
theorem pcsN_nth (s : List UInt8) : ∀ (n a i k : Nat) (p : Nat × Nat × Nat), s.length - i = n → a ≤ i → i ≤ s.length → (pcsN s n a i)[k]? = some p →
    (k + 1 = (pcsN s n a i).length ∧ p.2.1 = s.length ∧ p.2.2 = s.length) ∨ ∃ q, (pcsN s n a i)[k + 1]? = some q ∧ q.1 = p.2.2 ∧ nlAt s p
  | 0, a, i, k, p, h, h1, h2, hp => by
    rw [pcsN] at hp ⊢
    cases k with
    | zero => simp at hp; subst hp; exact .inl ⟨rfl, rfl, rfl⟩
    | succ k => simp at hp
  | n + 1, a, i, k, p, h, h1, h2, hp => by
    rw [pcsN] at hp ⊢
    obtain ⟨c, hc⟩ := get_some s i (by omega)
    by_cases hn : s.getD i 0 = 10
    · rw [if_pos hn] at hp ⊢
      rw [getD_some hc] at hn
      subst hn
      cases k with
      | zero =>
        simp at hp; subst hp
        have hl := (pcsN_len s n (i + 1) (i + 1)).1
        obtain ⟨q, hq⟩ := get_some (pcsN s n (i + 1) (i + 1)) 0 hl
        refine .inr ⟨q, by simpa using hq, ?_, ?_⟩
        · cases n with
          | zero => simp [pcsN] at hq; subst hq; rfl
          | succ n =>
            obtain ⟨init, b, e, k1, k2, k3, k4⟩ := pcsN_shape s (n + 1) (i + 1) (i + 1) (by omega) (Nat.le_refl _) (by omega)
            exact pcsN_head s (n + 1) (i + 1) (i + 1) q hq
        · unfold nlAt crN
          simp only
          split
          · rename_i hcr
            obtain ⟨d, hd⟩ := get_some s (i - 1) (by omega)
            have h13 : d = 13 := by have := hcr.2; rwa [getD_some hd] at this
            refine .inr ⟨by omega, d, 10, hd, by rw [h13]; rfl, ?_, rfl⟩
            rw [show i - 1 + 1 = i by omega]; exact hc
          · exact .inl ⟨rfl, 10, hc, rfl⟩
      | succ k =>
        simp only [List.getElem?_cons_succ] at hp ⊢
        rcases pcsN_nth s n (i + 1) (i + 1) k p (by omega) (Nat.le_refl _) (by omega) hp with ⟨e1, e2, e3⟩ | ⟨q, e1, e2, e3⟩
        · exact .inl ⟨by rw [List.length_cons]; omega, e2, e3⟩
        · exact .inr ⟨q, e1, e2, e3⟩
    · rw [if_neg hn] at hp ⊢
      exact pcsN_nth s n a (i + 1) k p (by omega) (by omega) (by omega) hp
where
  pcsN_head (s : List UInt8) : ∀ (n a i : Nat) (q : Nat × Nat × Nat), (pcsN s n a i)[0]? = some q → q.1 = a
    | 0, a, i, q, h => by simp [pcsN] at h; subst h; rfl
    | n + 1, a, i, q, h => by
      rw [pcsN] at h
      split at h
      · simp at h; subst h; rfl
      · exact pcsN_head s n a (i + 1) q h
def posF (s : List UInt8) (k : Nat) : Nat := match (endsF s)[k]? with
  | some p => p.1
  | none => s.length
theorem pos_zero (s : List UInt8) : posF s 0 = markN s := by
  have h1 := (ends_len s).1
  obtain ⟨p, hp⟩ := get_some (endsF s) 0 h1
  unfold posF; rw [hp]
  exact pcsN_nth.pcsN_head s _ _ _ p hp
theorem pos_le (s : List UInt8) (k : Nat) : posF s k ≤ s.length := by
  unfold posF
  split
  · rename_i p hp; have := ends_ok hp; omega
  · exact Nat.le_refl _
theorem lost_at {s : List UInt8} {pre : List (Int × List UInt8)} {x : Int × List UInt8} (h : pre ++ [x] <+: toldF s) :
    x.1 = ((pre.length + 1 : Nat) : Int) ∧ posF s pre.length + x.2.length ≤ s.length ∧ (s.take (posF s pre.length + x.2.length)).drop (posF s pre.length) = x.2 ∧
    ((posF s pre.length + x.2.length = s.length ∧ 0 < x.2.length ∧ posF s (pre.length + 1) = s.length) ∨
     (∃ c, s[posF s pre.length + x.2.length]? = some c ∧ c.toNat = 10 ∧ posF s pre.length + x.2.length < s.length ∧ posF s (pre.length + 1) = posF s pre.length + x.2.length + 1) ∨
     (∃ c d, s[posF s pre.length + x.2.length]? = some c ∧ c.toNat = 13 ∧ s[posF s pre.length + x.2.length + 1]? = some d ∧ d.toNat = 10 ∧ posF s pre.length + x.2.length + 1 < s.length ∧ posF s (pre.length + 1) = posF s pre.length + x.2.length + 2)) := by
  have hlt := pre_lt h
  obtain ⟨rest, hr⟩ := h
  have hx : (toldF s)[pre.length]? = some x := by rw [← hr]; simp
  rw [told_lenR] at hlt
  obtain ⟨p, hp⟩ := get_some (pcsR s) pre.length hlt
  have ht := toldR_at s (pcsR s) 0 pre.length p hp
  rw [told_ref, ht] at hx
  obtain rfl := Option.some.inj hx
  have hk : keepP p = true := by
    have := List.mem_of_getElem? hp
    rw [pcsR_ends] at this
    exact (List.mem_filter.1 this).2
  have he : (endsF s)[pre.length]? = some p := by
    obtain ⟨init, b, e, k1, k2, k3, k4⟩ := ends_shape s
    have hf : init.filter keepP = init := filter_all fun x hx => (k1 x hx).1
    have key : pcsR s = init ++ if keepP (b, s.length, s.length) = true then [(b, s.length, s.length)] else [] := by rw [pcsR_ends, e, List.filter_append, hf, List.filter_cons, List.filter_nil]
    rw [key] at hp hlt
    rw [e]
    by_cases hb : keepP (b, s.length, s.length) = true
    · rw [if_pos hb] at hp; exact hp
    · rw [if_neg hb, List.append_nil] at hp hlt
      rw [List.getElem?_append_left hlt]; exact hp
  simp only [keepP, decide_eq_true_eq] at hk
  obtain ⟨o1, o2, o3⟩ := ends_ok he
  have hpos : posF s pre.length = p.1 := by unfold posF; rw [he]
  have hl : ((s.take p.2.1).drop p.1).length = p.2.1 - p.1 := by simp; omega
  rw [hpos]
  simp only [hl]
  rw [show p.1 + (p.2.1 - p.1) = p.2.1 by omega]
  refine ⟨by rw [Nat.zero_add], by omega, rfl, ?_⟩
  rcases pcsN_nth s _ _ _ pre.length p rfl (Nat.le_refl _) (mark_len s) he with ⟨e1, e2, e3⟩ | ⟨q, e1, e2, e3⟩
  · refine .inl ⟨e2, by omega, ?_⟩
    have e1' : pre.length + 1 = (endsF s).length := e1
    unfold posF
    rw [List.getElem?_eq_none (by omega)]
  · have hq : posF s (pre.length + 1) = p.2.2 := by
      have e1' : (endsF s)[pre.length + 1]? = some q := e1
      unfold posF; rw [e1']; exact e2
    rw [hq]
    rcases e3 with ⟨f1, c, f2, f3⟩ | ⟨f1, c, d, f2, f3, f4, f5⟩
    · exact .inr (.inl ⟨c, f2, f3, (List.getElem?_eq_some_iff.1 f2).1, f1⟩)
    · exact .inr (.inr ⟨c, d, f2, f3, f4, f5, (List.getElem?_eq_some_iff.1 f4).1, f1⟩)
theorem lost_end (s : List UInt8) : posF s (toldF s).length = s.length := by
  obtain ⟨init, b, e, k1, k2, k3, k4⟩ := ends_shape s
  have hf : init.filter keepP = init := filter_all fun x hx => (k1 x hx).1
  have key : pcsR s = init ++ if keepP (b, s.length, s.length) = true then [(b, s.length, s.length)] else [] := by rw [pcsR_ends, e, List.filter_append, hf, List.filter_cons, List.filter_nil]
  rw [told_lenR, key]
  unfold posF
  by_cases hb : keepP (b, s.length, s.length) = true
  · rw [if_pos hb, e, List.getElem?_eq_none (Nat.le_refl _)]
  · rw [if_neg hb, e, List.append_nil]
    simp only [keepP, decide_eq_true_eq] at hb
    simp; omega
theorem getD_nat {s : List UInt8} {i : Nat} {c : UInt8} (h : s[i]? = some c) : (s.getD i 0).toNat = c.toNat := by rw [getD_some h]
theorem lost_atD {s : List UInt8} {pre : List (Int × List UInt8)} {x : Int × List UInt8} (h : pre ++ [x] <+: toldF s) :
    x.1 = ((pre.length + 1 : Nat) : Int) ∧ posF s pre.length + x.2.length ≤ s.length ∧ (s.take (posF s pre.length + x.2.length)).drop (posF s pre.length) = x.2 ∧
    ((posF s pre.length + x.2.length = s.length ∧ 0 < x.2.length ∧ posF s (pre.length + 1) = s.length) ∨
     ((s.getD (posF s pre.length + x.2.length) 0).toNat = 10 ∧ posF s pre.length + x.2.length < s.length ∧ posF s (pre.length + 1) = posF s pre.length + x.2.length + 1) ∨
     ((s.getD (posF s pre.length + x.2.length) 0).toNat = 13 ∧ (s.getD (posF s pre.length + x.2.length + 1) 0).toNat = 10 ∧ posF s pre.length + x.2.length + 1 < s.length ∧ posF s (pre.length + 1) = posF s pre.length + x.2.length + 2)) := by
  obtain ⟨h1, h2, h3, h4⟩ := lost_at h
  refine ⟨h1, h2, h3, ?_⟩
  rcases h4 with h4 | ⟨c, hc, h4⟩ | ⟨c, d, hc, e, hd, f, h4⟩
  · exact .inl h4
  · exact .inr (.inl ⟨by rw [getD_nat hc]; exact h4.1, h4.2⟩)
  · exact .inr (.inr ⟨by rw [getD_nat hc]; exact e, by rw [getD_nat hd]; exact f, h4⟩)
end Go.FK
