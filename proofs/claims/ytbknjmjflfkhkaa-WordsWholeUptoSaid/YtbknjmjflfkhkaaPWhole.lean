/- Plain laws: words and what stands between them are the text. -/
import Derived.Test.YtbknjmjflfkhkaaPSep
set_option linter.unusedVariables false
namespace Go.FK
open Go Go.RowKit
/-- From a byte on, character by character: the place that is come to, and the characters. -/
inductive Chain (a : List UInt8) (e : Nat) : Nat → List Int → Prop
  | refl : Chain a e e []
  | step {p : Nat} {l : List Int} : Chain a e p l → p < a.length → Chain a e (p + (dec a p).2) (l ++ [((dec a p).1 : Int)])
theorem Chain.le {a : List UInt8} {e p : Nat} {l : List Int} (h : Chain a e p l) : e ≤ p := by
  induction h with
  | refl => exact Nat.le_refl _
  | step _ _ ih => omega
theorem Chain.le_len {a : List UInt8} {e p : Nat} {l : List Int} (h : Chain a e p l) (he : e ≤ a.length) : p ≤ a.length := by
  induction h with
  | refl => exact he
  | step _ h _ => exact dec_fits _ _ h
def sl (a : List UInt8) (e p : Nat) : List UInt8 := List.drop e (List.take p a)
theorem sl_len {a : List UInt8} {e p : Nat} (h : p ≤ a.length) : (sl a e p).length = p - e := by
  simp [sl]; omega
theorem dec_slice {a : List UInt8} {e p m : Nat} (he : e ≤ p) (hp : p < a.length) (hm : m ≤ a.length) (hw : p + (dec a p).2 ≤ m) : dec (sl a e m) (p - e) = dec a p := by
  have e1 : a.take e ++ (sl a e m ++ a.drop m) = a := by
    have : sl a e m ++ a.drop m = a.drop e := by
      apply List.ext_getElem?
      intro i
      rcases Nat.lt_or_ge i (m - e) with h | h
      · rw [List.getElem?_append_left (by rw [sl_len hm]; exact h)]
        simp only [sl, List.getElem?_drop, List.getElem?_take]
        rw [if_pos (by omega)]
      · rw [List.getElem?_append_right (by rw [sl_len hm]; exact h), sl_len hm]
        simp only [List.getElem?_drop]
        congr 1
        have := dec_pos a p
        omega
    rw [this, List.take_append_drop]
  have hl : (a.take e).length = e := by rw [List.length_take]; omega
  have h2 := dec_right (a.take e) (sl a e m ++ a.drop m) (p - e)
  rw [e1, hl, show e + (p - e) = p by omega] at h2
  have h3 := dec_left (a := sl a e m) (b := a.drop m) (p := p - e) (by rw [sl_len hm]; have := dec_pos a p; omega) (by rw [← h2, sl_len hm]; omega)
  rw [h3, ← h2]
theorem Chain.slice {a : List UInt8} {e p : Nat} {l : List Int} (h : Chain a e p l) : ∀ m, p ≤ m → m ≤ a.length → runesFrom (sl a e m) 0 = l ++ runesFrom (sl a e m) (p - e) := by
  induction h with
  | refl => intro m _ _; simp
  | step h hp ih =>
    rename_i p l
    intro m hm hma
    have hle := h.le
    have hd := dec_slice hle hp hma hm
    have h1 := dec_pos a p
    rw [ih m (by omega) hma, runesFrom_step (by rw [sl_len hma]; omega), hd, show p - e + (dec a p).2 = p + (dec a p).2 - e by omega]
    simp
theorem Chain.runes {a : List UInt8} {e p : Nat} {l : List Int} (h : Chain a e p l) (he : e ≤ a.length) : runesFrom (sl a e p) 0 = l := by
  have hp := h.le_len he
  rw [h.slice p (Nat.le_refl _) hp, runesFrom_end (by rw [sl_len hp]; exact Nat.le_refl _), List.append_nil]
def endOf (pre : List (Int × List UInt8)) : Nat := pre.foldl (fun _ x => x.1.toNat + x.2.length) 0
theorem endOf_app (pre : List (Int × List UInt8)) (x : Int × List UInt8) : endOf (pre ++ [x]) = x.1.toNat + x.2.length := by simp [endOf]
def Good (a : List UInt8) (pre : List (Int × List UInt8)) (x : Int × List UInt8) : Prop :=
  ∃ l0 l1, 0 ≤ x.1 ∧ x.1.toNat < x.1.toNat + x.2.length ∧ x.1.toNat + x.2.length ≤ a.length ∧ Chain a (endOf pre) x.1.toNat l0 ∧ l0.all blankB = true ∧ Chain a x.1.toNat (x.1.toNat + x.2.length) l1 ∧ (∀ c ∈ l1, blankB c = false) ∧
    x.2 = sl a x.1.toNat (x.1.toNat + x.2.length) ∧ (pre ≠ [] → endOf pre < x.1.toNat)
def WInv (a : List UInt8) (pre : List (Int × List UInt8)) (p : Nat) (fr : Int) : Prop :=
  (fr = -1 ∧ (∃ l, Chain a (endOf pre) p l ∧ l.all blankB = true) ∧ (pre ≠ [] → endOf pre < p)) ∨
  ∃ f : Nat, fr = f ∧ f < p ∧ (∃ l0, Chain a (endOf pre) f l0 ∧ l0.all blankB = true) ∧ (pre ≠ [] → endOf pre < f) ∧ ∃ l1, Chain a f p l1 ∧ ∀ c ∈ l1, blankB c = false
theorem good_word {a : List UInt8} {pre : List (Int × List UInt8)} {f p : Nat} (hp : p ≤ a.length) (h1 : f < p) (h2 : ∃ l0, Chain a (endOf pre) f l0 ∧ l0.all blankB = true) (h3 : pre ≠ [] → endOf pre < f) (h4 : ∃ l1, Chain a f p l1 ∧ ∀ c ∈ l1, blankB c = false) :
    Good a pre ((f : Int), sl a f p) ∧ endOf (pre ++ [((f : Int), sl a f p)]) = p := by
  obtain ⟨l0, h2, h2'⟩ := h2
  obtain ⟨l1, h4, h4'⟩ := h4
  have hl : (sl a f p).length = p - f := sl_len hp
  have e : f + (p - f) = p := by omega
  refine ⟨⟨l0, l1, ?_, ?_, ?_, ?_, h2', ?_, h4', ?_, ?_⟩, ?_⟩
  · simp
  · simp only [Int.toNat_natCast, hl]; omega
  · simp only [Int.toNat_natCast, hl]; omega
  · exact h2
  · simp only [Int.toNat_natCast, hl, e]; exact h4
  · simp only [Int.toNat_natCast, hl, e]
  · exact h3
  · rw [endOf_app]; simp only [Int.toNat_natCast, hl]; exact e
def FinOk (a : List UInt8) (ws : List (Int × List UInt8)) : Prop := ∃ l, Chain a (endOf ws) a.length l ∧ l.all blankB = true
theorem whole (a : List UInt8) : ∀ (n p : Nat) (fr : Int) (pre : List (Int × List UInt8)), a.length - p ≤ n → p ≤ a.length → WInv a pre p fr →
    (∀ pre2 x, pre2 ++ [x] <+: wordsFrom a p fr → Good a (pre ++ pre2) x) ∧ FinOk a (pre ++ wordsFrom a p fr) := by
  intro n
  have atend : ∀ (fr : Int) (pre : List (Int × List UInt8)), WInv a pre a.length fr → (∀ pre2 x, pre2 ++ [x] <+: wordsFrom a a.length fr → Good a (pre ++ pre2) x) ∧ FinOk a (pre ++ wordsFrom a a.length fr) := by
    intro fr pre hI
    rw [wordsFrom_end (Nat.le_refl _)]
    rcases hI with ⟨rfl, ⟨l, h1, h1'⟩, h2⟩ | ⟨f, rfl, h1, h2, h3, h4⟩
    · rw [if_neg (by decide)]
      refine ⟨fun pre2 x h => ?_, ⟨l, by simpa using h1, h1'⟩⟩
      have := h.length_le
      simp at this
    · obtain ⟨g1, g2⟩ := good_word (Nat.le_refl _) h1 h2 h3 h4
      rw [if_pos (by omega)]
      have e : a.drop (f : Int).toNat = sl a f a.length := by simp [sl]
      rw [e]
      refine ⟨fun pre2 x h => ?_, ⟨[], by rw [g2]; exact .refl, rfl⟩⟩
      have hl := h.length_le
      simp at hl
      subst hl
      have : x = ((f : Int), sl a f a.length) := by simpa using List.prefix_cons_iff.1 h
      subst this
      simpa using g1
  induction n with
  | zero =>
    intro p fr pre hn hp hI
    obtain rfl : p = a.length := by omega
    exact atend fr pre hI
  | succ n ih =>
    intro p fr pre hn hp hI
    rcases Nat.lt_or_ge p a.length with h | h
    · have hf := dec_fits a p h
      have h1 := dec_pos a p
      rw [wordsFrom_step h rfl]
      rcases hI with ⟨rfl, ⟨l, c1, c2⟩, c3⟩ | ⟨f, rfl, c1, c2, c3, l1, c4, c5⟩
      · cases hb : blankB ((dec a p).1 : Int) with
        | true =>
          rw [if_pos rfl, if_neg (by decide)]
          exact ih _ (-1) pre (by omega) hf (.inl ⟨rfl, ⟨_, .step c1 h, by rw [List.all_append, c2]; simp [hb]⟩, fun hne => by have := c3 hne; omega⟩)
        | false =>
          rw [if_neg (by decide), if_pos (by decide)]
          refine ih _ p pre (by omega) hf (.inr ⟨p, rfl, by omega, ⟨l, c1, c2⟩, c3, _, .step .refl h, ?_⟩)
          intro c hc
          simp at hc
          subst hc; exact hb
      · cases hb : blankB ((dec a p).1 : Int) with
        | true =>
          rw [if_pos rfl, if_pos (by omega)]
          obtain ⟨g1, g2⟩ := good_word (Nat.le_of_lt h) c1 c2 c3 ⟨l1, c4, c5⟩
          have hI2 : WInv a (pre ++ [((f : Int), sl a f p)]) (p + (dec a p).2) (-1) := .inl ⟨rfl, ⟨_, by rw [g2]; exact .step .refl h, by simp [hb]⟩, fun _ => by rw [g2]; omega⟩
          obtain ⟨k1, k2⟩ := ih _ (-1) _ (by omega) hf hI2
          have e : ((f : Int), List.drop (f : Int).toNat (List.take p a)) = ((f : Int), sl a f p) := by simp [sl]
          rw [e]
          refine ⟨fun pre2 x hx => ?_, by simpa using k2⟩
          cases pre2 with
          | nil =>
            have : x = ((f : Int), sl a f p) := by
              obtain ⟨t, ht⟩ := hx
              injection ht
            subst this; simpa using g1
          | cons y pre2 =>
            rw [List.cons_append, List.cons_prefix_cons] at hx
            obtain ⟨rfl, hx⟩ := hx
            have := k1 pre2 x hx
            simpa using this
        | false =>
          rw [if_neg (by decide), if_neg (by omega)]
          refine ih _ f pre (by omega) hf (.inr ⟨f, rfl, by omega, c2, c3, _, .step c4 h, ?_⟩)
          intro c hc
          rcases List.mem_append.1 hc with hc | hc
          · exact c5 c hc
          · simp at hc; subst hc; exact hb
    · obtain rfl : p = a.length := by omega
      exact atend fr pre hI
def blankT (s : List UInt8) : Bool := (runesFrom s 0).all blankB
theorem words_good {a : List UInt8} {pre : List (Int × List UInt8)} {x : Int × List UInt8} (h : pre ++ [x] <+: wordsOf a) : Good a pre x := by
  have := (whole a _ 0 (-1) [] (Nat.le_refl _) (Nat.zero_le _) (.inl ⟨rfl, ⟨[], .refl, rfl⟩, fun h => absurd rfl h⟩)).1 pre x h
  simpa using this
theorem words_fin (a : List UInt8) : FinOk a (wordsOf a) := by
  have := (whole a _ 0 (-1) [] (Nat.le_refl _) (Nat.zero_le _) (.inl ⟨rfl, ⟨[], .refl, rfl⟩, fun h => absurd rfl h⟩)).2
  rw [List.nil_append] at this; exact this
theorem endOf_le (a : List UInt8) : ∀ {pre : List (Int × List UInt8)}, pre <+: wordsOf a → endOf pre ≤ a.length := by
  intro pre h
  rcases List.eq_nil_or_concat pre with rfl | ⟨p, x, rfl⟩
  · simp [endOf]
  · rw [List.concat_eq_append] at h ⊢
    obtain ⟨l0, l1, _, _, h3, _⟩ := words_good h
    rw [endOf_app]; exact h3
/-- What the statement asks of a word. -/
theorem word_facts {a : List UInt8} {pre : List (Int × List UInt8)} {x : Int × List UInt8} (h : pre ++ [x] <+: wordsOf a) :
    0 ≤ x.1 ∧ (endOf pre : Int) ≤ x.1 ∧ x.1 + x.2.length ≤ a.length ∧ x.2.length ≠ 0 ∧ sl a x.1.toNat (x.1 + x.2.length).toNat = x.2 ∧ blankT (sl a (endOf pre) x.1.toNat) = true ∧ (0 < pre.length → x.1 ≠ endOf pre) ∧ endOf pre ≤ a.length ∧
    (∀ c ∈ runesFrom x.2 0, blankB c = false) ∧ endOf (pre ++ [x]) = (x.1 + x.2.length).toNat := by
  obtain ⟨l0, l1, h1, h2, h3, h4, h5, h6, h7, h8, h9⟩ := words_good h
  have hle := endOf_le a ((List.prefix_append pre [x]).trans h)
  have e : (x.1 + x.2.length).toNat = x.1.toNat + x.2.length := by omega
  have hle2 := h4.le
  refine ⟨h1, by omega, by omega, by omega, by rw [e]; exact h8.symm, ?_, fun hp he => ?_, hle, ?_, by rw [endOf_app, e]⟩
  · unfold blankT; rw [h4.runes hle]; exact h5
  · have := h9 (by intro e; simp [e] at hp); omega
  · have hr := h6.runes (by omega)
    rw [← h8] at hr
    rw [hr]; exact h7
theorem fin_facts (a : List UInt8) : blankT (List.drop (endOf (wordsOf a)) a) = true ∧ endOf (wordsOf a) ≤ a.length := by
  obtain ⟨l, h1, h2⟩ := words_fin a
  have hle := endOf_le a (List.prefix_refl (wordsOf a))
  have := h1.runes hle
  refine ⟨?_, hle⟩
  unfold blankT
  simp only [sl, List.take_length] at this
  rw [this]; exact h2
theorem blankT_false {s : List UInt8} {pos : Nat} {c : Int} (hI : ∃ pre, runesFrom s 0 = pre ++ runesFrom s pos) (h : pos < s.length) (hc : c = ((dec s pos).1 : Int)) (hb : blankB c = false) : blankT s = false := by
  obtain ⟨pre, hI⟩ := hI
  unfold blankT
  rw [hI, runesFrom_step h, ← hc]
  simp [hb]
end Go.FK
namespace Go.FK
theorem texts_len (a : List UInt8) : (textsOf a).length ≤ a.length + 1 := by
  unfold textsOf; rw [List.length_map]; exact words_le a
theorem seps (a b : List UInt8) : (wordsOf ((a ++ [32]) ++ b)).map (·.2) = textsOf a ++ textsOf b := by
  have := texts_sep a b
  rw [List.append_assoc]
  exact this
end Go.FK
