/- PGM: the maps of chapter 4 for any kind of value: searching, what is met, cutting and laying as the program does it. My own text. -/
import Derived.Test.YthjgnnfonofgkaaPStr
set_option linter.unusedVariables false
namespace Go.FK
section
variable {V : Type} {xs : List (SpG V)} {x lo hi : Int} {i j : Nat} {s t : SpG V}
theorem RiseG.at (h : RiseG 0 xs) (hs : xs[i]? = some s) : 0 ≤ s.1 ∧ s.1 ≤ s.2.1 ∧ s.2.1 ≤ 1114111 := h.mem s (List.mem_of_getElem? hs)
theorem rise_lt : ∀ {xs : List (SpG V)} {b : Int} {i j : Nat} {s t : SpG V}, RiseG b xs → i < j → xs[i]? = some s → xs[j]? = some t → s.2.1 < t.1
  | [], _, _, _, _, _, _, _, hs, _ => by simp at hs
  | y :: l, b, i, j, s, t, h, hij, hs, ht => by
    obtain ⟨j, rfl⟩ : ∃ k, j = k + 1 := ⟨j - 1, by omega⟩
    rw [List.getElem?_cons_succ] at ht
    cases i with
    | zero =>
      obtain rfl : y = s := by simpa using hs
      have := h.2.2.2.mem t (List.mem_of_getElem? ht)
      omega
    | succ i =>
      rw [List.getElem?_cons_succ] at hs
      exact rise_lt h.2.2.2 (by omega) hs ht
theorem RiseG.le (h : RiseG 0 xs) (hij : i ≤ j) (hs : xs[i]? = some s) (ht : xs[j]? = some t) : s.2.1 ≤ t.2.1 := by
  rcases Nat.lt_or_ge i j with h1 | h1
  · have := rise_lt h h1 hs ht
    have := (h.at ht).2.1
    omega
  · obtain rfl : i = j := by omega
    rw [hs] at ht; cases ht; omega
theorem rise_len : ∀ {xs : List (SpG V)} {b : Int}, RiseG b xs → b ≤ 1114112 → (xs.length : Int) + b ≤ 1114112
  | [], b, _, hb => by simpa using hb
  | s :: l, b, h, hb => by
    have := rise_len h.2.2.2 (by have := h.2.2.1; omega)
    have := h.1; have := h.2.1
    rw [List.length_cons]; omega
theorem RiseG.len (h : RiseG 0 xs) : xs.length ≤ 1114112 := by have := rise_len h (by omega); omega
/-! ### the first stretch that ends there or above -/
def fromG (xs : List (SpG V)) (x : Int) : Nat := (xs.takeWhile fun s => decide (s.2.1 < x)).length
def foundG (xs : List (SpG V)) (x : Int) : Bool := match xs[fromG xs x]? with | some s => decide (s.2.1 = x) | none => false
theorem fromG_eq : ∀ (xs : List (SpG V)) (x : Int) (i : Nat), i ≤ xs.length → (∀ a s, a < i → xs[a]? = some s → s.2.1 < x) → (∀ s, xs[i]? = some s → x ≤ s.2.1) → fromG xs x = i
  | [], x, i, h, _, _ => by simp at h; subst h; rfl
  | s :: l, x, 0, _, _, h2 => by
    have := h2 s rfl
    unfold fromG
    rw [List.takeWhile_cons, if_neg (by simp; omega)]; rfl
  | s :: l, x, i + 1, h, h1, h2 => by
    have hs := h1 0 s (by omega) rfl
    have ih := fromG_eq l x i (by simpa using h) (fun a t ha ht => h1 (a + 1) t (by omega) (by simpa using ht)) (fun t ht => h2 t (by simpa using ht))
    unfold fromG at ih ⊢
    rw [List.takeWhile_cons, if_pos (by simpa using hs), List.length_cons, ih]
theorem fromG_le (xs : List (SpG V)) (x : Int) : fromG xs x ≤ xs.length := (List.takeWhile_prefix _).length_le
theorem fromG_low : ∀ (xs : List (SpG V)) (x : Int), ∀ s ∈ xs.take (fromG xs x), s.2.1 < x
  | [], x, s, hs => by simp at hs
  | t :: l, x, s, hs => by
    unfold fromG at hs
    rw [List.takeWhile_cons] at hs
    by_cases c : t.2.1 < x
    · rw [if_pos (by simpa using c), List.length_cons, List.take_succ_cons] at hs
      rcases List.mem_cons.1 hs with rfl | hs
      · exact c
      · exact fromG_low l x s hs
    · rw [if_neg (by simpa using c)] at hs; simp at hs
theorem fromG_high : ∀ (xs : List (SpG V)) (x : Int) (s : SpG V), xs[fromG xs x]? = some s → x ≤ s.2.1
  | [], x, s, hs => by simp at hs
  | t :: l, x, s, hs => by
    unfold fromG at hs
    rw [List.takeWhile_cons] at hs
    by_cases c : t.2.1 < x
    · rw [if_pos (by simpa using c), List.length_cons, List.getElem?_cons_succ] at hs
      exact fromG_high l x s hs
    · rw [if_neg (by simpa using c)] at hs
      obtain rfl : t = s := by simpa using hs
      omega
def lowG (xs : List (SpG V)) (x : Int) (i : Nat) : Prop := ∀ a s, a < i → xs[a]? = some s → s.2.1 < x
def highG (xs : List (SpG V)) (x : Int) (j : Nat) : Prop := ∀ s, xs[j]? = some s → x ≤ s.2.1
theorem lowG_zero (xs : List (SpG V)) (x : Int) : lowG xs x 0 := fun a s h => by omega
theorem highG_end (xs : List (SpG V)) (x : Int) : highG xs x xs.length := fun s h => by simp at h
theorem lowG_step {h : Nat} (hr : RiseG 0 xs) (hs : xs[h]? = some s) (hx : s.2.1 < x) : lowG xs x (h + 1) := fun a t ha ht => by
  have := hr.le (show a ≤ h by omega) ht hs; omega
theorem highG_step {h : Nat} (hs : xs[h]? = some s) (hx : x ≤ s.2.1) : highG xs x h := fun t ht => by rw [hs] at ht; cases ht; exact hx
theorem fromG_done (hi : lowG xs x i) (hj : highG xs x j) (h1 : i ≤ j) (h2 : j ≤ i) (h3 : j ≤ xs.length) : fromG xs x = i := by
  obtain rfl : i = j := by omega
  exact fromG_eq xs x i h3 hi hj
theorem foundG_some (hf : fromG xs x = i) (hs : xs[i]? = some s) : foundG xs x = decide (s.2.1 = x) := by unfold foundG; rw [hf, hs]
theorem foundG_none (hf : fromG xs x = i) (h : xs.length ≤ i) : foundG xs x = false := by unfold foundG; rw [hf, List.getElem?_eq_none h]
/-! ### what a code point has, as the program looks it up -/
theorem val_from (hr : RiseG 0 xs) (hs : xs[fromG xs x]? = some s) : valG xs x = if s.1 ≤ x then some s.2.2 else none := by
  have h1 := fromG_low xs x
  have h2 := fromG_high xs x s hs
  have e : xs = xs.take (fromG xs x) ++ s :: xs.drop (fromG xs x + 1) := by
    obtain ⟨hlt, rfl⟩ := List.getElem?_eq_some_iff.1 hs
    rw [← List.drop_eq_getElem_cons hlt, List.take_append_drop]
  have e1 : valG (xs.take (fromG xs x)) x = none := by
    unfold valG
    rw [List.find?_eq_none.2 (fun t ht => by rw [inS_no (by have := h1 t ht; omega)]; decide)]; rfl
  have hr2 := hr
  rw [e] at hr2
  have hr3 := (rise_app.1 hr2).2.1
  generalize hA : xs.take (fromG xs x) = A at e e1
  generalize hB : xs.drop (fromG xs x + 1) = B at e hr3
  rw [e, valG_app, e1, Option.none_or]
  by_cases c : s.1 ≤ x
  · rw [if_pos c, valG_yes ⟨c, h2⟩]
  · rw [if_neg c]
    exact RiseG.low (l := s :: B) (b := s.1) ⟨Int.le_refl _, hr3.2⟩ (by omega)
theorem val_end (h : xs.length ≤ fromG xs x) : valG xs x = none := by
  have h1 := fromG_low xs x
  rw [List.take_of_length_le h] at h1
  unfold valG
  rw [List.find?_eq_none.2 (fun t ht => by rw [inS_no (by have := h1 t ht; omega)]; decide)]; rfl
def inR (x : Int) : Bool := decide (0 ≤ x ∧ x ≤ 1114111)
/-- A value, or z. -/
def orZ (z : V) (o : Option V) : V × Bool := match o with | some v => (v, true) | none => (z, false)
def atG (z : V) (xs : List (SpG V)) (x : Int) : V × Bool := orZ z (if inR x = true then valG xs x else none)
theorem atG_out {z : V} (h : x < 0 ∨ 1114111 < x) : atG z xs x = (z, false) := by unfold atG; rw [if_neg (by simp [inR]; omega)]; rfl
theorem atG_in {z : V} (hr : RiseG 0 xs) (h0 : 0 ≤ x) (h1 : x ≤ 1114111) (hs : xs[fromG xs x]? = some s) (h : s.1 ≤ x) : atG z xs x = (s.2.2, true) := by
  unfold atG; rw [if_pos (by simp [inR]; omega), val_from hr hs, if_pos h]; rfl
theorem atG_gap {z : V} (hr : RiseG 0 xs) (h0 : 0 ≤ x) (h1 : x ≤ 1114111) (hs : xs[fromG xs x]? = some s) (h : x < s.1) : atG z xs x = (z, false) := by
  unfold atG; rw [if_pos (by simp [inR]; omega), val_from hr hs, if_neg (by omega)]; rfl
theorem atG_end {z : V} (h0 : 0 ≤ x) (h1 : x ≤ 1114111) (h : xs.length ≤ fromG xs x) : atG z xs x = (z, false) := by
  unfold atG; rw [if_pos (by simp [inR]; omega), val_end h]; rfl
def sizeG (xs : List (SpG V)) : Int := xs.foldl (fun n s => n + (s.2.1 - s.1 + 1)) 0
theorem sizeG_take (h : xs[i]? = some s) : sizeG (xs.take i) + (s.2.1 - s.1 + 1) = sizeG (xs.take (i + 1)) := by
  unfold sizeG
  rw [show xs.take (i + 1) = xs.take i ++ [s] by rw [List.take_add_one, h]; rfl, List.foldl_append]; rfl
theorem sizeG_le (h : RiseG 0 xs) : ∀ i, i ≤ xs.length → 0 ≤ sizeG (xs.take i) ∧ sizeG (xs.take i) ≤ 1114112 * i := by
  intro i
  induction i with
  | zero => intro _; simp [sizeG]
  | succ i ih =>
    intro hi
    have h1 := ih (by omega)
    have hs : xs[i]? = some xs[i] := List.getElem?_eq_getElem (by omega)
    have := h.at hs
    rw [← sizeG_take hs]
    omega
/-! ### what a range meets -/
def mayG (lo hi : Int) : Bool := decide (0 ≤ lo ∧ lo ≤ hi ∧ hi ≤ 1114111)
theorem mayG_b (h : mayG lo hi = true) : 0 ≤ lo ∧ lo ≤ hi ∧ hi ≤ 1114111 := of_decide_eq_true h
def metG (xs : List (SpG V)) (lo hi : Int) : Option (SpG V) :=
  if mayG lo hi = false then none else match xs[fromG xs lo]? with | some s => if s.1 ≤ hi then some s else none | none => none
theorem metG_may (h : mayG lo hi = false) : metG xs lo hi = none := by unfold metG; rw [if_pos h]
theorem metG_yes (h : mayG lo hi = true) (hs : xs[fromG xs lo]? = some s) (h1 : s.1 ≤ hi) : metG xs lo hi = some s := by unfold metG; rw [if_neg (by rw [h]; decide), hs]; simp only; rw [if_pos h1]
theorem metG_no (h : mayG lo hi = true) (hs : xs[fromG xs lo]? = some s) (h1 : hi < s.1) : metG xs lo hi = none := by unfold metG; rw [if_neg (by rw [h]; decide), hs]; simp only; rw [if_neg (by omega)]
theorem metG_end (h : mayG lo hi = true) (hs : xs.length ≤ fromG xs lo) : metG xs lo hi = none := by unfold metG; rw [if_neg (by rw [h]; decide), List.getElem?_eq_none hs]
def metV (z : V) (o : Option (SpG V)) : Int × Int × V × Bool := match o with | some s => (s.1, s.2.1, s.2.2, true) | none => (0, 0, z, false)
/-- Nothing is met: nothing has a value there. -/
theorem metG_none (hr : RiseG 0 xs) (hm : mayG lo hi = true) : metG xs lo hi = none ↔ ∀ x, lo ≤ x → x ≤ hi → valG xs x = none := by
  have hb := mayG_b hm
  have hlow : ∀ x, lo ≤ x → valG (xs.take (fromG xs lo)) x = none := fun x hx => by
    unfold valG
    rw [List.find?_eq_none.2 (fun t ht => by rw [inS_no (by have := fromG_low xs lo t ht; omega)]; decide)]; rfl
  cases hs : xs[fromG xs lo]? with
  | none =>
    have hl := List.getElem?_eq_none_iff.1 hs
    refine ⟨fun _ x h1 h2 => ?_, fun _ => metG_end hm hl⟩
    have := hlow x h1
    rwa [List.take_of_length_le hl] at this
  | some s =>
    have h2 := fromG_high xs lo s hs
    have e : xs = xs.take (fromG xs lo) ++ s :: xs.drop (fromG xs lo + 1) := by
      obtain ⟨hlt, rfl⟩ := List.getElem?_eq_some_iff.1 hs
      rw [← List.drop_eq_getElem_cons hlt, List.take_append_drop]
    have hr2 := hr
    rw [e] at hr2
    have hr3 := (rise_app.1 hr2).2.1
    have hv : ∀ x, lo ≤ x → valG xs x = valG (s :: xs.drop (fromG xs lo + 1)) x := fun x hx => by
      conv => lhs; rw [e]
      rw [valG_app, hlow x hx, Option.none_or]
    by_cases c : s.1 ≤ hi
    · rw [metG_yes hm hs c]
      refine ⟨fun h => (by cases h), fun h => ?_⟩
      have h3 := h (max s.1 lo) (by omega) (by omega)
      rw [hv _ (by omega), valG_yes (by have := hr3.2.1; omega)] at h3; cases h3
    · rw [metG_no hm hs (by omega)]
      refine ⟨fun _ x h1 h3 => ?_, fun _ => rfl⟩
      rw [hv x h1]
      exact RiseG.low (l := s :: xs.drop (fromG xs lo + 1)) (b := s.1) ⟨Int.le_refl _, hr3.2⟩ (by omega)
/-! ### cutting, step by step -/
theorem cutG_cons (lo hi : Int) (s : SpG V) (l : List (SpG V)) : cutG lo hi (s :: l) = if s.2.1 < lo then s :: cutG lo hi l else if hi < s.1 then s :: l else piecesG lo hi s ++ cutG lo hi l := rfl
theorem cntG_cons (lo hi : Int) (s : SpG V) (l : List (SpG V)) : cntG lo hi (s :: l) = if s.2.1 < lo then cntG lo hi l else if hi < s.1 then 0 else (min s.2.1 hi - max s.1 lo) + 1 + cntG lo hi l := rfl
def cutI (lo hi : Int) (xs : List (SpG V)) (j : Nat) (z : Int) (ys : List (SpG V)) : Prop :=
  fromG xs lo ≤ j ∧ j ≤ xs.length ∧ xs.take (fromG xs lo) ++ ys ++ cutG lo hi (xs.drop j) = cutG lo hi xs ∧ z + cntG lo hi (xs.drop j) = cntG lo hi xs ∧ 0 ≤ z ∧ z ≤ 1114112 * j ∧ ys.length ≤ 2 * j
theorem cut_low {A : List (SpG V)} : ∀ {B : List (SpG V)}, (∀ s ∈ A, s.2.1 < lo) → cutG lo hi (A ++ B) = A ++ cutG lo hi B ∧ cntG lo hi (A ++ B) = cntG lo hi B := by
  induction A with
  | nil => intro B _; exact ⟨rfl, rfl⟩
  | cons s A ih =>
    intro B h
    have h1 := h s (List.mem_cons_self ..)
    have h2 := ih (B := B) fun t ht => h t (List.mem_cons_of_mem _ ht)
    rw [List.cons_append]
    rw [cutG_cons, cntG_cons, if_pos h1, if_pos h1, h2.1, h2.2]; exact ⟨rfl, rfl⟩
theorem cutI_zero : cutI lo hi xs (fromG xs lo) 0 [] := by
  have h := cut_low (B := xs.drop (fromG xs lo)) (hi := hi) (fromG_low xs lo)
  rw [List.take_append_drop] at h
  exact ⟨Nat.le_refl _, fromG_le _ _, by rw [List.append_nil]; exact h.1.symm, by rw [Int.zero_add]; exact h.2.symm, Int.le_refl _, by omega, by simp⟩
theorem cutI_at {z : Int} {ys : List (SpG V)} (hr : RiseG 0 xs) (h : cutI lo hi xs j z ys) (hs : xs[j]? = some s) : lo ≤ s.2.1 := by
  have hj : j < xs.length := (List.getElem?_eq_some_iff.1 hs).1
  have h0 : xs[fromG xs lo]? = some (xs[fromG xs lo]'(by have := h.1; omega)) := List.getElem?_eq_getElem _
  have h1 := fromG_high xs lo _ h0
  have h2 := hr.le h.1 h0 hs
  omega
theorem cutI_step {z z' : Int} {ys zs : List (SpG V)} (hr : RiseG 0 xs) (hlh : lo ≤ hi) (h : cutI lo hi xs j z ys) (hs : xs[j]? = some s) (hh : s.1 ≤ hi) (hz : z' = z + (min s.2.1 hi - max s.1 lo + 1)) (hzs : zs = ys ++ piecesG lo hi s) : cutI lo hi xs (j + 1) z' zs := by
  have hj : j < xs.length := (List.getElem?_eq_some_iff.1 hs).1
  have h1 := cutI_at hr h hs
  have h2 := hr.at hs
  obtain ⟨g1, g2, g3, g4, g5, g6, g7⟩ := h
  have e : xs.drop j = s :: xs.drop (j + 1) := by
    obtain ⟨hlt, rfl⟩ := List.getElem?_eq_some_iff.1 hs
    exact List.drop_eq_getElem_cons hlt
  rw [e] at g3 g4
  rw [cutG_cons] at g3
  rw [cntG_cons] at g4
  rw [if_neg (by omega), if_neg (by omega)] at g3 g4
  have hp : (piecesG lo hi s).length ≤ 2 := by unfold piecesG; split <;> split <;> simp
  refine ⟨by omega, by omega, ?_, by omega, by omega, by omega, ?_⟩
  · rw [hzs, ← g3]; simp only [List.append_assoc]
  · rw [hzs, List.length_append]; omega
theorem cutI_end {z : Int} {ys : List (SpG V)} (h : cutI lo hi xs j z ys) (hj : xs.length ≤ j) : xs.take (fromG xs lo) ++ ys ++ xs.drop j = cutG lo hi xs ∧ z = cntG lo hi xs := by
  obtain ⟨_, _, g3, g4, _⟩ := h
  rw [List.drop_of_length_le hj] at g3 g4 ⊢
  exact ⟨g3, by rw [← g4]; show z = z + 0; omega⟩
theorem cutI_stop {z : Int} {ys : List (SpG V)} (hr : RiseG 0 xs) (hlh : lo ≤ hi) (h : cutI lo hi xs j z ys) (hs : xs[j]? = some s) (hh : hi < s.1) : xs.take (fromG xs lo) ++ ys ++ xs.drop j = cutG lo hi xs ∧ z = cntG lo hi xs := by
  have h1 := cutI_at hr h hs
  have h2 := hr.at hs
  obtain ⟨_, _, g3, g4, _⟩ := h
  have e : xs.drop j = s :: xs.drop (j + 1) := by
    obtain ⟨hlt, rfl⟩ := List.getElem?_eq_some_iff.1 hs
    exact List.drop_eq_getElem_cons hlt
  rw [e] at g3 g4 ⊢
  rw [cutG_cons] at g3
  rw [cntG_cons] at g4
  rw [if_neg (by omega), if_pos hh] at g3 g4
  exact ⟨g3, by omega⟩
theorem cut_free {lo hi : Int} (hlh : lo ≤ hi) : ∀ {l : List (SpG V)} {b : Int}, RiseG b l → ∀ s ∈ cutG lo hi l, s.2.1 < lo ∨ hi < s.1
  | [], _, _, s, hs => by cases hs
  | t :: l, b, h, s, hs => by
    obtain ⟨h1, h2, h3, h4⟩ := h
    unfold cutG at hs
    by_cases c1 : t.2.1 < lo
    · rw [if_pos c1] at hs
      rcases List.mem_cons.1 hs with rfl | hs
      · exact .inl c1
      · exact cut_free hlh h4 s hs
    · rw [if_neg c1] at hs
      by_cases c2 : hi < t.1
      · rw [if_pos c2] at hs
        rcases List.mem_cons.1 hs with rfl | hs
        · exact .inr c2
        · have := h4.mem s hs; omega
      · rw [if_neg c2] at hs
        rcases List.mem_append.1 hs with hs | hs
        · unfold piecesG at hs
          rcases List.mem_append.1 hs with hs | hs
          · split at hs
            · obtain rfl := List.mem_singleton.1 hs
              left; simp only; omega
            · cases hs
          · split at hs
            · obtain rfl := List.mem_singleton.1 hs
              right; simp only; omega
            · cases hs
        · exact cut_free hlh h4 s hs
section
variable {z z' : Int} {ys : List (SpG V)} (hr : RiseG 0 xs) (hlh : lo ≤ hi) (h : cutI lo hi xs j z ys) (hs : xs[j]? = some s) (hh : s.1 ≤ hi) (hz : z' = z + (min s.2.1 hi - max s.1 lo + 1))
include hr hlh h hs hh hz
theorem cut_00 (h1 : lo ≤ s.1) (h2 : s.2.1 ≤ hi) : cutI lo hi xs (j + 1) z' ys := cutI_step hr hlh h hs hh hz (by unfold piecesG; rw [if_neg (by omega), if_neg (by omega)]; simp)
theorem cut_10 (h1 : s.1 < lo) (h2 : s.2.1 ≤ hi) : cutI lo hi xs (j + 1) z' (ys ++ [(s.1, lo - 1, s.2.2)]) := cutI_step hr hlh h hs hh hz (by unfold piecesG; rw [if_pos h1, if_neg (by omega)]; simp)
theorem cut_01 (h1 : lo ≤ s.1) (h2 : hi < s.2.1) : cutI lo hi xs (j + 1) z' (ys ++ [(hi + 1, s.2.1, s.2.2)]) := cutI_step hr hlh h hs hh hz (by unfold piecesG; rw [if_neg (by omega), if_pos h2]; simp)
theorem cut_11 (h1 : s.1 < lo) (h2 : hi < s.2.1) : cutI lo hi xs (j + 1) z' (ys ++ [(s.1, lo - 1, s.2.2)] ++ [(hi + 1, s.2.1, s.2.2)]) := cutI_step hr hlh h hs hh hz (by unfold piecesG; rw [if_pos h1, if_pos h2]; simp)
end
/-! ### laying, as the program does it -/
variable {v : V} {eq : V → V → Bool}
def leftC (eq : V → V → Bool) (xs : List (SpG V)) (lo : Int) (v : V) : Nat × Int :=
  match (if fromG xs lo = 0 then none else xs[fromG xs lo - 1]?) with
  | some s => if s.2.1 + 1 = lo ∧ eq s.2.2 v = true then (fromG xs lo - 1, s.1) else (fromG xs lo, lo)
  | none => (fromG xs lo, lo)
def rightC (eq : V → V → Bool) (xs : List (SpG V)) (lo hi : Int) (v : V) : Nat × Int :=
  match xs[fromG xs lo]? with
  | some s => if s.1 = hi + 1 ∧ eq s.2.2 v = true then (fromG xs lo + 1, s.2.1) else (fromG xs lo, hi)
  | none => (fromG xs lo, hi)
def layC (eq : V → V → Bool) (xs : List (SpG V)) (lo hi : Int) (v : V) : List (SpG V) := xs.take (leftC eq xs lo v).1 ++ [((leftC eq xs lo v).2, (rightC eq xs lo hi v).2, v)] ++ xs.drop (rightC eq xs lo hi v).1
theorem leftC_zero (h : fromG xs lo = 0) : leftC eq xs lo v = (fromG xs lo, lo) := by unfold leftC; rw [if_pos h]
theorem leftC_no (h : fromG xs lo ≠ 0) (hs : xs[fromG xs lo - 1]? = some s) (h2 : s.2.1 + 1 ≠ lo ∨ eq s.2.2 v = false) : leftC eq xs lo v = (fromG xs lo, lo) := by
  unfold leftC; rw [if_neg h, hs]; simp only; rw [if_neg (fun h => h2.elim (fun k => k h.1) (fun k => by rw [k] at h; exact absurd h.2 (by decide)))]
theorem leftC_yes (h : fromG xs lo ≠ 0) (hs : xs[fromG xs lo - 1]? = some s) (h1 : s.2.1 + 1 = lo) (h2 : eq s.2.2 v = true) : leftC eq xs lo v = (fromG xs lo - 1, s.1) := by
  unfold leftC; rw [if_neg h, hs]; simp only; rw [if_pos ⟨h1, h2⟩]
theorem rightC_end (h : xs.length ≤ fromG xs lo) : rightC eq xs lo hi v = (fromG xs lo, hi) := by unfold rightC; rw [List.getElem?_eq_none h]
theorem rightC_no (hs : xs[fromG xs lo]? = some s) (h2 : s.1 ≠ hi + 1 ∨ eq s.2.2 v = false) : rightC eq xs lo hi v = (fromG xs lo, hi) := by
  unfold rightC; rw [hs]; simp only; rw [if_neg (fun h => h2.elim (fun k => k h.1) (fun k => by rw [k] at h; exact absurd h.2 (by decide)))]
theorem rightC_yes (hs : xs[fromG xs lo]? = some s) (h1 : s.1 = hi + 1) (h2 : eq s.2.2 v = true) : rightC eq xs lo hi v = (fromG xs lo + 1, s.2.1) := by
  unfold rightC; rw [hs]; simp only; rw [if_pos ⟨h1, h2⟩]
theorem layC_mk {p q : Int} {a b : Nat} (hl : leftC eq xs lo v = (a, p)) (hr : rightC eq xs lo hi v = (b, q)) : xs.take a ++ [(p, q, v)] ++ xs.drop b = layC eq xs lo hi v := by unfold layC; rw [hl, hr]
theorem layC_parts (eq : V → V → Bool) (xs : List (SpG V)) (lo hi : Int) (v : V) : ∃ A' p B' q, LeftOf eq (xs.take (fromG xs lo)) lo v A' p ∧ RightOf eq (xs.drop (fromG xs lo)) hi v B' q ∧ layC eq xs lo hi v = A' ++ (p, q, v) :: B' := by
  have hle := fromG_le xs lo
  have hL : LeftOf eq (xs.take (fromG xs lo)) lo v (xs.take (leftC eq xs lo v).1) (leftC eq xs lo v).2 := by
    by_cases h0 : fromG xs lo = 0
    · rw [leftC_zero h0]
      exact .inl ⟨rfl, rfl, fun s hs => by rw [h0] at hs; simp at hs⟩
    · have hs : xs[fromG xs lo - 1]? = some (xs[fromG xs lo - 1]'(by omega)) := List.getElem?_eq_getElem _
      generalize xs[fromG xs lo - 1]'(by omega) = s at hs
      have ht : xs.take (fromG xs lo) = xs.take (fromG xs lo - 1) ++ [s] := by
        have : xs.take (fromG xs lo - 1 + 1) = xs.take (fromG xs lo - 1) ++ [s] := by rw [List.take_add_one, hs]; rfl
        rwa [show fromG xs lo - 1 + 1 = fromG xs lo by omega] at this
      by_cases c : s.2.1 + 1 = lo ∧ eq s.2.2 v = true
      · rw [leftC_yes h0 hs c.1 c.2]
        exact .inr ⟨s, ht, c.1, c.2, rfl⟩
      · rw [leftC_no h0 hs (by by_cases c1 : s.2.1 + 1 = lo; exact .inr (by simpa [c1] using c); exact .inl c1)]
        refine .inl ⟨rfl, rfl, fun t h1 h2 => ?_⟩
        rw [ht, List.getLast?_concat] at h1
        cases h1
        simpa [h2] using c
  have hR : RightOf eq (xs.drop (fromG xs lo)) hi v (xs.drop (rightC eq xs lo hi v).1) (rightC eq xs lo hi v).2 := by
    cases hs : xs[fromG xs lo]? with
    | none =>
      rw [rightC_end (List.getElem?_eq_none_iff.1 hs)]
      exact .inl ⟨rfl, rfl, fun s h1 => by rw [List.head?_drop, hs] at h1; cases h1⟩
    | some s =>
      have ht : xs.drop (fromG xs lo) = s :: xs.drop (fromG xs lo + 1) := by
        obtain ⟨hlt, rfl⟩ := List.getElem?_eq_some_iff.1 hs
        exact List.drop_eq_getElem_cons hlt
      by_cases c : s.1 = hi + 1 ∧ eq s.2.2 v = true
      · rw [rightC_yes hs c.1 c.2]
        exact .inr ⟨s, ht, c.1, c.2, rfl⟩
      · rw [rightC_no hs (by by_cases c1 : s.1 = hi + 1; exact .inr (by simpa [c1] using c); exact .inl c1)]
        refine .inl ⟨rfl, rfl, fun t h1 h2 => ?_⟩
        rw [List.head?_drop, hs] at h1
        cases h1
        simpa [h2] using c
  refine ⟨_, _, _, _, hL, hR, ?_⟩
  unfold layC
  simp
def layG (eq : V → V → Bool) (xs : List (SpG V)) (lo hi : Int) (v : V) : List (SpG V) := layC eq (cutG lo hi xs) lo hi v
theorem lay_cutfree {l : List (SpG V)} (hr : RiseG 0 l) (hf : ∀ s ∈ l, s.2.1 < lo ∨ hi < s.1) : RiseG (hi + 1) (l.drop (fromG l lo)) := by
  have h1 : RiseG 0 (l.drop (fromG l lo)) := by
    have := hr
    rw [← List.take_append_drop (fromG l lo) l] at this
    exact (rise_app.1 this).2.1
  cases hd : l.drop (fromG l lo) with
  | nil => trivial
  | cons s m =>
    rw [hd] at h1
    have hs : l[fromG l lo]? = some s := by rw [← List.head?_drop, hd]; rfl
    have h2 := fromG_high l lo s hs
    have h3 := hf s (List.mem_of_getElem? hs)
    exact ⟨by omega, h1.2⟩
theorem layG_rise (hr : RiseG 0 xs) (hm : mayG lo hi = true) : RiseG 0 (layG eq xs lo hi v) := by
  obtain ⟨h0, h1, h2⟩ := mayG_b hm
  have hc := cut_rise h0 h1 hr
  obtain ⟨A', p, B', q, hL, hR, e⟩ := layC_parts eq (cutG lo hi xs) lo hi v
  have hA : RiseG 0 ((cutG lo hi xs).take (fromG (cutG lo hi xs) lo)) := by
    have := hc
    rw [← List.take_append_drop (fromG (cutG lo hi xs) lo) (cutG lo hi xs)] at this
    exact (rise_app.1 this).1
  unfold layG; rw [e]
  exact lay_rise h0 h1 h2 hA (fromG_low _ _) (lay_cutfree hc (cut_free h1 hr)) hL hR
theorem layG_rel (hr : RiseG 0 xs) (hm : mayG lo hi = true) (x : Int) : if lo ≤ x ∧ x ≤ hi then valG (layG eq xs lo hi v) x = some v else RelG eq v (valG (layG eq xs lo hi v) x) (valG xs x) := by
  obtain ⟨h0, h1, h2⟩ := mayG_b hm
  have hc := cut_rise h0 h1 hr
  obtain ⟨A', p, B', q, hL, hR, e⟩ := layC_parts eq (cutG lo hi xs) lo hi v
  have hA : RiseG 0 ((cutG lo hi xs).take (fromG (cutG lo hi xs) lo)) := by
    have := hc
    rw [← List.take_append_drop (fromG (cutG lo hi xs) lo) (cutG lo hi xs)] at this
    exact (rise_app.1 this).1
  have h3 := lay_val h1 hA (fromG_low _ _) (lay_cutfree hc (cut_free h1 hr)) hL hR x
  unfold layG; rw [e]
  rw [List.take_append_drop, cut_val h1 x hr] at h3
  split
  · next hx => rw [if_pos hx] at h3; exact h3
  · next hx => rw [if_neg hx, if_neg hx] at h3; exact h3
theorem layG_val (hE : ∀ a b, eq a b = true ↔ a = b) (hr : RiseG 0 xs) (hm : mayG lo hi = true) (x : Int) : valG (layG eq xs lo hi v) x = if lo ≤ x ∧ x ≤ hi then some v else valG xs x := by
  have h := layG_rel (eq := eq) (v := v) hr hm x
  split
  · next hx => rw [if_pos hx] at h; exact h
  · next hx =>
    rw [if_neg hx] at h
    rcases h with h | ⟨u, h1, h2, h3⟩
    · exact h
    · rw [h1, h2, (hE _ _).1 h3]
theorem layG_can (hE : ∀ a b, eq a b = true ↔ a = b) (hr : RiseG 0 xs) (hcan : CanG eq none xs) (hm : mayG lo hi = true) : CanG eq none (layG eq xs lo hi v) := by
  obtain ⟨h0, h1, h2⟩ := mayG_b hm
  have hc := cut_rise h0 h1 hr
  have hcc := cut_can eq h1 hr hcan (fun e u he => by cases he)
  obtain ⟨A', p, B', q, hL, hR, e⟩ := layC_parts eq (cutG lo hi xs) lo hi v
  have h3 := hcc
  rw [← List.take_append_drop (fromG (cutG lo hi xs) lo) (cutG lo hi xs), can_app] at h3
  unfold layG; rw [e]
  exact lay_can hE h1 (fromG_low _ _) h3.1 h3.2 hL hR
/-! ### what Put and Lay and Cut answer and leave -/
def layE (lo hi : Int) : Int := if mayG lo hi = false then 41 else 0
def layF (eq : V → V → Bool) (xs : List (SpG V)) (lo hi : Int) (v : V) : List (SpG V) := if mayG lo hi = false then xs else layG eq xs lo hi v
def cutF (xs : List (SpG V)) (lo hi : Int) : List (SpG V) := if mayG lo hi = false then xs else cutG lo hi xs
def cutN (xs : List (SpG V)) (lo hi : Int) : Int := if mayG lo hi = false then 0 else cntG lo hi xs
def putE (xs : List (SpG V)) (lo hi : Int) : Int := if mayG lo hi = false then 41 else if (metG xs lo hi).isSome = true then 42 else 0
def putF (eq : V → V → Bool) (xs : List (SpG V)) (lo hi : Int) (v : V) : List (SpG V) := if mayG lo hi = false then xs else if (metG xs lo hi).isSome = true then xs else layG eq xs lo hi v
theorem layF_rise (hr : RiseG 0 xs) : RiseG 0 (layF eq xs lo hi v) := by
  unfold layF; split
  · exact hr
  · next h => exact layG_rise hr (by simpa using h)
theorem cutF_rise (hr : RiseG 0 xs) : RiseG 0 (cutF xs lo hi) := by
  unfold cutF; split
  · exact hr
  · next h =>
    have hb := mayG_b (by simpa using h)
    exact cut_rise hb.1 hb.2.1 hr
theorem putF_rise (hr : RiseG 0 xs) : RiseG 0 (putF eq xs lo hi v) := by
  unfold putF; split
  · exact hr
  · next h =>
    split
    · exact hr
    · exact layG_rise hr (by simpa using h)
theorem layF_can (hE : ∀ a b, eq a b = true ↔ a = b) (hr : RiseG 0 xs) (hc : CanG eq none xs) : CanG eq none (layF eq xs lo hi v) := by
  unfold layF; split
  · exact hc
  · next h => exact layG_can hE hr hc (by simpa using h)
theorem cutF_can (hr : RiseG 0 xs) (hc : CanG eq none xs) : CanG eq none (cutF xs lo hi) := by
  unfold cutF; split
  · exact hc
  · next h =>
    have hb := mayG_b (by simpa using h)
    exact cut_can eq hb.2.1 hr hc (fun e u he => by cases he)
theorem putF_can (hE : ∀ a b, eq a b = true ↔ a = b) (hr : RiseG 0 xs) (hc : CanG eq none xs) : CanG eq none (putF eq xs lo hi v) := by
  unfold putF; split
  · exact hc
  · next h =>
    split
    · exact hc
    · exact layG_can hE hr hc (by simpa using h)
end
end Go.FK
