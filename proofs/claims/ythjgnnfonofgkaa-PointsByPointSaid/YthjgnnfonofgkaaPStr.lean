/- PStr: stretches with their values, of any kind of value: cutting, laying, what a code point has; one form. My own text. -/
set_option linter.unusedVariables false
namespace Go.FK
abbrev SpG (V : Type) := Int × Int × V
section
variable {V : Type}
/-- Rising, none empty, all between b and 1114111. -/
def RiseG : Int → List (SpG V) → Prop
  | _, [] => True
  | b, s :: l => b ≤ s.1 ∧ s.1 ≤ s.2.1 ∧ s.2.1 ≤ 1114111 ∧ RiseG (s.2.1 + 1) l
def inS (x : Int) (s : SpG V) : Bool := decide (s.1 ≤ x ∧ x ≤ s.2.1)
/-- What a code point has. -/
def valG (xs : List (SpG V)) (x : Int) : Option V := (xs.find? (inS x)).map (·.2.2)
theorem inS_yes {x : Int} {s : SpG V} (h : s.1 ≤ x ∧ x ≤ s.2.1) : inS x s = true := decide_eq_true h
theorem inS_no {x : Int} {s : SpG V} (h : x < s.1 ∨ s.2.1 < x) : inS x s = false := decide_eq_false (by omega)
theorem valG_nil (x : Int) : valG ([] : List (SpG V)) x = none := rfl
theorem valG_yes {x : Int} {s : SpG V} {l : List (SpG V)} (h : s.1 ≤ x ∧ x ≤ s.2.1) : valG (s :: l) x = some s.2.2 := by
  unfold valG; rw [List.find?_cons, inS_yes h]; rfl
theorem valG_no {x : Int} {s : SpG V} {l : List (SpG V)} (h : x < s.1 ∨ s.2.1 < x) : valG (s :: l) x = valG l x := by
  unfold valG; rw [List.find?_cons, inS_no h]
theorem valG_app (A B : List (SpG V)) (x : Int) : valG (A ++ B) x = (valG A x).or (valG B x) := by
  unfold valG
  rw [List.find?_append]
  cases List.find? (inS x) A <;> rfl
theorem RiseG.mono {b c : Int} {l : List (SpG V)} (h : RiseG b l) (hc : c ≤ b) : RiseG c l := by
  cases l with
  | nil => trivial
  | cons s l => exact ⟨by have := h.1; omega, h.2⟩
theorem RiseG.low {l : List (SpG V)} : ∀ {b : Int}, RiseG b l → ∀ {x : Int}, x < b → valG l x = none := by
  induction l with
  | nil => intros; rfl
  | cons s l ih =>
    intro b h x hx
    rw [valG_no (by have := h.1; omega)]
    exact ih h.2.2.2 (by have := h.1; have := h.2.1; omega)
theorem RiseG.mem {l : List (SpG V)} : ∀ {b : Int}, RiseG b l → ∀ s ∈ l, b ≤ s.1 ∧ s.1 ≤ s.2.1 ∧ s.2.1 ≤ 1114111 := by
  induction l with
  | nil => intro b _ s hs; cases hs
  | cons t l ih =>
    intro b h s hs
    rcases List.mem_cons.1 hs with rfl | hs
    · exact ⟨h.1, h.2.1, h.2.2.1⟩
    · have := ih h.2.2.2 s hs
      have := h.1; have := h.2.1; omega
theorem rise_app {A B : List (SpG V)} : ∀ {b : Int}, RiseG b (A ++ B) ↔ RiseG b A ∧ RiseG b B ∧ ∀ s ∈ A, RiseG (s.2.1 + 1) B := by
  induction A with
  | nil => intro b; simp [RiseG]
  | cons t A ih =>
    intro b
    rw [List.cons_append]
    constructor
    · intro h
      have h2 := ih.1 h.2.2.2
      refine ⟨⟨h.1, h.2.1, h.2.2.1, h2.1⟩, h2.2.1.mono (by have := h.1; have := h.2.1; omega), fun s hs => ?_⟩
      rcases List.mem_cons.1 hs with rfl | hs
      · exact h2.2.1
      · exact h2.2.2 s hs
    · intro h
      exact ⟨h.1.1, h.1.2.1, h.1.2.2.1, ih.2 ⟨h.1.2.2.2, h.2.2 t (List.mem_cons_self ..), fun s hs => h.2.2 s (List.mem_cons_of_mem _ hs)⟩⟩
/-! ### cutting -/
def piecesG (lo hi : Int) (s : SpG V) : List (SpG V) :=
  (if s.1 < lo then [(s.1, lo - 1, s.2.2)] else []) ++ (if hi < s.2.1 then [(hi + 1, s.2.1, s.2.2)] else [])
def cutG (lo hi : Int) : List (SpG V) → List (SpG V)
  | [] => []
  | s :: l => if s.2.1 < lo then s :: cutG lo hi l else if hi < s.1 then s :: l else piecesG lo hi s ++ cutG lo hi l
def cntG (lo hi : Int) : List (SpG V) → Int
  | [] => 0
  | s :: l => if s.2.1 < lo then cntG lo hi l else if hi < s.1 then 0 else (min s.2.1 hi - max s.1 lo) + 1 + cntG lo hi l
theorem cut_rise {lo hi : Int} (h0 : 0 ≤ lo) (hl : lo ≤ hi) : ∀ {l : List (SpG V)} {b : Int}, RiseG b l → RiseG b (cutG lo hi l)
  | [], _, _ => trivial
  | s :: l, b, h => by
    have ih := fun c (hc : RiseG c l) => cut_rise h0 hl hc
    obtain ⟨h1, h2, h3, h4⟩ := h
    unfold cutG
    by_cases c1 : s.2.1 < lo
    · rw [if_pos c1]; exact ⟨h1, h2, h3, ih _ h4⟩
    · rw [if_neg c1]
      by_cases c2 : hi < s.1
      · rw [if_pos c2]; exact ⟨h1, h2, h3, h4⟩
      · rw [if_neg c2]
        unfold piecesG
        have i1 := ih _ h4
        by_cases c3 : s.1 < lo
        · rw [if_pos c3]
          by_cases c4 : hi < s.2.1
          · rw [if_pos c4]
            refine ⟨h1, ?_, ?_, ?_, ?_, ?_, i1⟩ <;> simp only <;> omega
          · rw [if_neg c4]
            exact ⟨h1, by simp only; omega, by simp only; omega, i1.mono (by simp only; omega)⟩
        · rw [if_neg c3]
          by_cases c4 : hi < s.2.1
          · rw [if_pos c4]
            refine ⟨?_, ?_, ?_, i1⟩ <;> simp only <;> omega
          · rw [if_neg c4]
            exact i1.mono (by omega)
theorem cut_val {lo hi : Int} (hl : lo ≤ hi) (x : Int) : ∀ {l : List (SpG V)} {b : Int}, RiseG b l → valG (cutG lo hi l) x = if lo ≤ x ∧ x ≤ hi then none else valG l x
  | [], _, _ => by simp [cutG, valG_nil]
  | s :: l, b, h => by
    obtain ⟨h1, h2, h3, h4⟩ := h
    have ih := cut_val hl x h4
    unfold cutG
    by_cases c1 : s.2.1 < lo
    · rw [if_pos c1]
      by_cases hx : s.1 ≤ x ∧ x ≤ s.2.1
      · rw [valG_yes hx, valG_yes hx, if_neg (by omega)]
      · rw [valG_no (by omega), valG_no (by omega), ih]
    · rw [if_neg c1]
      by_cases c2 : hi < s.1
      · rw [if_pos c2]
        by_cases hx : lo ≤ x ∧ x ≤ hi
        · rw [if_pos hx]; exact RiseG.low (l := s :: l) (b := s.1) ⟨Int.le_refl _, h2, h3, h4⟩ (by omega)
        · rw [if_neg hx]
      · rw [if_neg c2, valG_app]
        have hl4 : x ≤ s.2.1 → valG (cutG lo hi l) x = none := fun hx => by
          rw [ih]
          split
          · rfl
          · exact h4.low (by omega)
        unfold piecesG
        rw [valG_app]
        by_cases hx : lo ≤ x ∧ x ≤ hi
        · rw [if_pos hx]
          have e1 : valG (if s.1 < lo then [(s.1, lo - 1, s.2.2)] else []) x = none := by
            split
            · rw [valG_no (by simp only; omega)]; rfl
            · rfl
          have e2 : valG (if hi < s.2.1 then [(hi + 1, s.2.1, s.2.2)] else []) x = none := by
            split
            · rw [valG_no (by simp only; omega)]; rfl
            · rfl
          rw [e1, e2, ih, if_pos hx]; rfl
        · rw [if_neg hx]
          rw [if_neg hx] at ih
          by_cases hs : s.1 ≤ x ∧ x ≤ s.2.1
          · rw [valG_yes hs, hl4 hs.2]
            by_cases hxl : x < lo
            · rw [if_pos (by omega : s.1 < lo), valG_yes (by simp only; omega)]; rfl
            · rw [if_pos (by omega : hi < s.2.1)]
              have e1 : valG (if s.1 < lo then [(s.1, lo - 1, s.2.2)] else []) x = none := by
                split
                · rw [valG_no (by simp only; omega)]; rfl
                · rfl
              rw [e1, valG_yes (by simp only; omega)]; rfl
          · rw [valG_no (by omega), ih]
            have e1 : valG (if s.1 < lo then [(s.1, lo - 1, s.2.2)] else []) x = none := by
              split
              · rw [valG_no (by simp only; omega)]; rfl
              · rfl
            have e2 : valG (if hi < s.2.1 then [(hi + 1, s.2.1, s.2.2)] else []) x = none := by
              split
              · rw [valG_no (by simp only; omega)]; rfl
              · rfl
            rw [e1, e2]; rfl
/-! ### one form -/
variable (eq : V → V → Bool)
/-- Neighbours that touch have unlike values. -/
def CanG : Option (Int × V) → List (SpG V) → Prop
  | _, [] => True
  | p, s :: l => (∀ e u, p = some (e, u) → e + 1 = s.1 → eq u s.2.2 = false) ∧ CanG (some (s.2.1, s.2.2)) l
def lastG (p : Option (Int × V)) (A : List (SpG V)) : Option (Int × V) := A.foldl (fun _ s => some (s.2.1, s.2.2)) p
theorem can_app {A B : List (SpG V)} : ∀ {p : Option (Int × V)}, CanG eq p (A ++ B) ↔ CanG eq p A ∧ CanG eq (lastG p A) B := by
  induction A with
  | nil => intro p; simp [CanG, lastG]
  | cons t A ih =>
    intro p
    rw [List.cons_append]
    show _ ∧ CanG eq _ (A ++ B) ↔ (_ ∧ CanG eq _ A) ∧ _
    rw [ih, and_assoc]; rfl
theorem lastG_snoc (p : Option (Int × V)) (A : List (SpG V)) (s : SpG V) : lastG p (A ++ [s]) = some (s.2.1, s.2.2) := by unfold lastG; rw [List.foldl_append]; rfl
theorem can_far {l : List (SpG V)} {p q : Option (Int × V)} {b : Int} (hr : RiseG b l) (h : CanG eq q l) (hp : ∀ e u, p = some (e, u) → e + 1 < b) : CanG eq p l := by
  cases l with
  | nil => trivial
  | cons s l => exact ⟨fun e u he h1 => by have := hp e u he; have := hr.1; omega, h.2⟩
theorem cut_past {lo hi : Int} {l : List (SpG V)} {b : Int} (h : RiseG b l) (hb : hi < b) (hl : lo ≤ hi) : cutG lo hi l = l := by
  cases l with
  | nil => rfl
  | cons s l =>
    unfold cutG
    have := h.1; have := h.2.1
    rw [if_neg (by omega), if_pos (by omega)]
theorem cut_can2 {lo hi : Int} (hl : lo ≤ hi) : ∀ {l : List (SpG V)} {b : Int} {p q : Option (Int × V)}, RiseG b l → lo ≤ b → CanG eq q l → (∀ e u, p = some (e, u) → e + 1 ≤ hi) → CanG eq p (cutG lo hi l)
  | [], _, _, _, _, _, _, _ => trivial
  | s :: l, b, p, q, h, hb, hc, hp => by
    obtain ⟨h1, h2, h3, h4⟩ := h
    unfold cutG
    rw [if_neg (by omega)]
    by_cases c2 : hi < s.1
    · rw [if_pos c2]
      exact ⟨fun e u he h1 => by have := hp e u he; omega, hc.2⟩
    · rw [if_neg c2]
      unfold piecesG
      rw [if_neg (by omega), List.nil_append]
      by_cases c4 : hi < s.2.1
      · rw [if_pos c4, cut_past h4 (by omega) hl]
        exact ⟨fun e u he h1 => by have := hp e u he; simp only at h1; omega, hc.2⟩
      · rw [if_neg c4, List.nil_append]
        exact cut_can2 hl h4 (by omega) hc.2 hp
theorem cut_can {lo hi : Int} (hl : lo ≤ hi) : ∀ {l : List (SpG V)} {b : Int} {p : Option (Int × V)}, RiseG b l → CanG eq p l → (∀ e u, p = some (e, u) → e < b) → CanG eq p (cutG lo hi l)
  | [], _, _, _, _, _ => trivial
  | s :: l, b, p, h, hc, hp => by
    obtain ⟨h1, h2, h3, h4⟩ := h
    unfold cutG
    by_cases c1 : s.2.1 < lo
    · rw [if_pos c1]
      exact ⟨hc.1, cut_can hl h4 hc.2 (fun e u he => by cases he; omega)⟩
    · rw [if_neg c1]
      by_cases c2 : hi < s.1
      · rw [if_pos c2]; exact hc
      · rw [if_neg c2]
        unfold piecesG
        have rest : ∀ p' : Option (Int × V), (∀ e u, p' = some (e, u) → e + 1 ≤ hi) → CanG eq p' ((if hi < s.2.1 then [(hi + 1, s.2.1, s.2.2)] else []) ++ cutG lo hi l) := fun p' hp' => by
          by_cases c4 : hi < s.2.1
          · rw [if_pos c4, cut_past h4 (by omega) hl]
            exact ⟨fun e u he h1 => by have := hp' e u he; simp only at h1; omega, hc.2⟩
          · rw [if_neg c4, List.nil_append]
            exact cut_can2 eq hl h4 (by omega) hc.2 hp'
        rw [List.append_assoc]
        by_cases c3 : s.1 < lo
        · rw [if_pos c3]
          exact ⟨hc.1, rest _ (fun e u he => by cases he; show lo - 1 + 1 ≤ hi; omega)⟩
        · rw [if_neg c3, List.nil_append]
          exact rest _ (fun e u he => by have := hp e u he; omega)
/-! ### laying where nothing is -/
def LeftOf (A : List (SpG V)) (lo : Int) (v : V) (A' : List (SpG V)) (p : Int) : Prop :=
  (A' = A ∧ p = lo ∧ ∀ s, A.getLast? = some s → s.2.1 + 1 = lo → eq s.2.2 v = false) ∨ ∃ s, A = A' ++ [s] ∧ s.2.1 + 1 = lo ∧ eq s.2.2 v = true ∧ p = s.1
def RightOf (B : List (SpG V)) (hi : Int) (v : V) (B' : List (SpG V)) (q : Int) : Prop :=
  (B' = B ∧ q = hi ∧ ∀ s, B.head? = some s → s.1 = hi + 1 → eq s.2.2 v = false) ∨ ∃ s, B = s :: B' ∧ s.1 = hi + 1 ∧ eq s.2.2 v = true ∧ q = s.2.1
/-- Alike, or one stands for the other. -/
def RelG (v : V) (a b : Option V) : Prop := a = b ∨ ∃ u, b = some u ∧ a = some v ∧ eq u v = true
section
variable {eq} {A A' B B' : List (SpG V)} {lo hi p q : Int} {v : V}
theorem lay_rise (h0 : 0 ≤ lo) (hl : lo ≤ hi) (hh : hi ≤ 1114111) (hA : RiseG 0 A) (hA2 : ∀ s ∈ A, s.2.1 < lo) (hB : RiseG (hi + 1) B) (hL : LeftOf eq A lo v A' p) (hR : RightOf eq B hi v B' q) : RiseG 0 (A' ++ (p, q, v) :: B') := by
  have key : RiseG 0 A' ∧ (∀ s ∈ A', s.2.1 < p) ∧ 0 ≤ p ∧ p ≤ lo := by
    rcases hL with ⟨rfl, rfl, _⟩ | ⟨s, rfl, h1, _, rfl⟩
    · exact ⟨hA, hA2, h0, Int.le_refl _⟩
    · have h2 := rise_app.1 hA
      have h3 := h2.2.1
      exact ⟨h2.1, fun t ht => by have := (h2.2.2 t ht).1; omega, h3.1, by have := h3.2.1; omega⟩
  have key2 : hi ≤ q ∧ q ≤ 1114111 ∧ RiseG (q + 1) B' := by
    rcases hR with ⟨rfl, rfl, _⟩ | ⟨s, rfl, h1, _, rfl⟩
    · exact ⟨Int.le_refl _, hh, hB⟩
    · exact ⟨by have := hB.2.1; omega, hB.2.2.1, hB.2.2.2⟩
  obtain ⟨k1, k2, k3, k4⟩ := key
  obtain ⟨k5, k6, k7⟩ := key2
  refine rise_app.2 ⟨k1, ⟨by simp only; omega, by simp only; omega, by simp only; omega, k7⟩, fun s hs => ⟨by have := k2 s hs; simp only; omega, by simp only; omega, by simp only; omega, k7⟩⟩
theorem lay_val (hl : lo ≤ hi) (hA : RiseG 0 A) (hA2 : ∀ s ∈ A, s.2.1 < lo) (hB : RiseG (hi + 1) B) (hL : LeftOf eq A lo v A' p) (hR : RightOf eq B hi v B' q) (x : Int) :
    if lo ≤ x ∧ x ≤ hi then valG (A' ++ (p, q, v) :: B') x = some v else RelG eq v (valG (A' ++ (p, q, v) :: B') x) (valG (A ++ B) x) := by
  rw [valG_app, valG_app]
  have a1 : lo ≤ x → valG A x = none := fun hx => by
    unfold valG
    rw [List.find?_eq_none.2 (fun s hs => by rw [inS_no (by have := hA2 s hs; omega)]; decide)]; rfl
  have b1 : x ≤ hi → valG B x = none := fun hx => hB.low (by omega)
  have a2 : lo ≤ x → valG A' x = none := fun hx => by
    rcases hL with ⟨rfl, rfl, _⟩ | ⟨s, rfl, h1, _, rfl⟩
    · exact a1 hx
    · have := a1 hx; rw [valG_app] at this
      exact (Option.or_eq_none_iff.1 this).1
  have hp : p ≤ lo := by
    rcases hL with ⟨rfl, rfl, _⟩ | ⟨s, rfl, h1, _, rfl⟩
    · exact Int.le_refl _
    · have := (rise_app.1 hA).2.1.2.1; omega
  have hq : hi ≤ q := by
    rcases hR with ⟨rfl, rfl, _⟩ | ⟨s, rfl, h1, _, rfl⟩
    · exact Int.le_refl _
    · have := hB.2.1; omega
  by_cases hx : lo ≤ x ∧ x ≤ hi
  · rw [if_pos hx, a2 hx.1, valG_yes (by simp only; omega)]; rfl
  · rw [if_neg hx]
    by_cases hx2 : x < lo
    · rw [b1 (by omega)]
      rcases hL with ⟨rfl, rfl, _⟩ | ⟨s, rfl, h1, he, rfl⟩
      · rw [valG_no (by simp only; omega)]
        have : valG B' x = none := by
          rcases hR with ⟨rfl, rfl, _⟩ | ⟨t, rfl, h2, _, rfl⟩
          · exact b1 (by omega)
          · exact hB.2.2.2.low (by have := hB.2.1; omega)
        rw [this]; exact .inl rfl
      · rw [valG_app, Option.or_none]
        have hr := rise_app.1 hA
        by_cases hs : s.1 ≤ x
        · rw [valG_yes (s := (s.1, q, v)) (by simp only; omega), valG_yes (s := s) (by omega)]
          have : valG A' x = none := by
            unfold valG
            rw [List.find?_eq_none.2 (fun t ht => by rw [inS_no (by have := (hr.2.2 t ht).1; omega)]; decide)]; rfl
          rw [this]
          exact .inr ⟨s.2.2, rfl, rfl, he⟩
        · rw [valG_no (s := (s.1, q, v)) (by simp only; omega), valG_no (s := s) (by omega), valG_nil, Option.or_none]
          have : valG B' x = none := by
            rcases hR with ⟨rfl, rfl, _⟩ | ⟨t, rfl, h2, _, rfl⟩
            · exact b1 (by omega)
            · exact hB.2.2.2.low (by have := hB.2.1; omega)
          rw [this, Option.or_none]; exact .inl rfl
    · rw [a1 (by omega), a2 (by omega)]
      rcases hR with ⟨rfl, rfl, _⟩ | ⟨s, rfl, h1, he, rfl⟩
      · rw [valG_no (by simp only; omega)]; exact .inl rfl
      · by_cases hs : x ≤ s.2.1
        · rw [valG_yes (s := (p, s.2.1, v)) (by simp only; omega), valG_yes (s := s) (by omega)]
          exact .inr ⟨s.2.2, rfl, rfl, he⟩
        · rw [valG_no (s := (p, s.2.1, v)) (by simp only; omega), valG_no (s := s) (by omega)]; exact .inl rfl
theorem lay_can (hE : ∀ a b, eq a b = true ↔ a = b) (hl : lo ≤ hi) (hA2 : ∀ s ∈ A, s.2.1 < lo) (hAc : CanG eq none A) {r : Option (Int × V)} (hBc : CanG eq r B) (hL : LeftOf eq A lo v A' p) (hR : RightOf eq B hi v B' q) : CanG eq none (A' ++ (p, q, v) :: B') := by
  rw [can_app]
  have k1 : CanG eq none A' ∧ ∀ e u, lastG none A' = some (e, u) → e + 1 = p → eq u v = false := by
    rcases hL with ⟨rfl, rfl, hn⟩ | ⟨s, rfl, h1, he, rfl⟩
    · refine ⟨hAc, fun e u hl h1 => ?_⟩
      rcases List.eq_nil_or_concat A' with rfl | ⟨A2, s, rfl⟩
      · cases hl
      · rw [List.concat_eq_append] at hl hn
        rw [lastG_snoc] at hl
        cases hl
        exact hn s (by simp) h1
    · have h2 := (can_app eq).1 hAc
      obtain rfl := (hE _ _).1 he
      exact ⟨h2.1, h2.2.1⟩
  have k2 : CanG eq (some (q, v)) B' := by
    rcases hR with ⟨rfl, rfl, hn⟩ | ⟨s, rfl, h1, he, rfl⟩
    · cases B' with
      | nil => trivial
      | cons s l =>
        refine ⟨fun e u he h1 => ?_, hBc.2⟩
        cases he
        have h3 := hn s rfl h1.symm
        cases h4 : eq v s.2.2 with
        | false => rfl
        | true => rw [(hE _ _).1 h4, (hE _ _).2 rfl] at h3; cases h3
    · obtain rfl := (hE _ _).1 he
      exact hBc.2
  exact ⟨k1.1, fun e u he h1 => k1.2 e u he h1, k2⟩
end
/-! ### maps with alike values have the same stretches -/
theorem one_form (hE : ∀ a b, eq a b = true ↔ a = b) : ∀ {l m : List (SpG V)} {b c : Int} {p q : Option (Int × V)}, RiseG b l → RiseG c m → CanG eq p l → CanG eq q m → (∀ x, valG l x = valG m x) → l = m
  | [], [], _, _, _, _, _, _, _, _, _ => rfl
  | [], t :: m, _, _, _, _, _, hm, _, _, h => by
    have := h t.1
    rw [valG_nil, valG_yes ⟨Int.le_refl _, hm.2.1⟩] at this; cases this
  | s :: l, [], _, _, _, _, hl, _, _, _, h => by
    have := h s.1
    rw [valG_nil, valG_yes ⟨Int.le_refl _, hl.2.1⟩] at this; cases this
  | s :: l, t :: m, b, c, p, q, hl, hm, cl, cm, h => by
    obtain ⟨l1, l2, l3, l4⟩ := hl
    obtain ⟨m1, m2, m3, m4⟩ := hm
    have e1 : s.1 = t.1 := by
      rcases Int.lt_trichotomy s.1 t.1 with h1 | h1 | h1
      · have := h s.1
        rw [valG_yes ⟨Int.le_refl _, l2⟩, RiseG.low (l := t :: m) (b := t.1) ⟨Int.le_refl _, m2, m3, m4⟩ h1] at this; cases this
      · exact h1
      · have := h t.1
        rw [valG_yes (s := t) ⟨Int.le_refl _, m2⟩, RiseG.low (l := s :: l) (b := s.1) ⟨Int.le_refl _, l2, l3, l4⟩ h1] at this; cases this
    have e2 : s.2.2 = t.2.2 := by
      have := h s.1
      rw [valG_yes ⟨Int.le_refl _, l2⟩, valG_yes (s := t) ⟨by omega, by omega⟩] at this
      exact Option.some.inj this
    -- what stands behind a stretch that is shorter
    have short : ∀ {s t : SpG V} {l m : List (SpG V)}, RiseG (s.2.1 + 1) l → CanG eq (some (s.2.1, s.2.2)) l → t.1 ≤ s.1 → s.1 ≤ s.2.1 → s.2.2 = t.2.2 → s.2.1 < t.2.1 → valG (s :: l) (s.2.1 + 1) = valG (t :: m) (s.2.1 + 1) → False := by
      intro s t l m l4 cl e1 l2 e2 h1 h
      rw [valG_no (by omega), valG_yes (s := t) ⟨by omega, by omega⟩] at h
      cases l with
      | nil => rw [valG_nil] at h; cases h
      | cons r l =>
        by_cases hr : r.1 = s.2.1 + 1
        · rw [valG_yes ⟨by omega, by have := l4.2.1; omega⟩] at h
          have h2 := cl.1 s.2.1 s.2.2 rfl hr.symm
          rw [Option.some.inj h, e2, (hE _ _).2 rfl] at h2; cases h2
        · rw [RiseG.low (l := r :: l) (b := r.1) ⟨Int.le_refl _, l4.2⟩ (by have := l4.1; omega)] at h; cases h
    have e3 : s.2.1 = t.2.1 := by
      rcases Int.lt_trichotomy s.2.1 t.2.1 with h1 | h1 | h1
      · exact (short l4 cl.2 (by omega) l2 e2 h1 (h _)).elim
      · exact h1
      · exact (short m4 cm.2 (by omega) m2 e2.symm h1 (h _).symm).elim
    obtain rfl : s = t := Prod.ext e1 (Prod.ext e3 e2)
    congr 1
    refine one_form hE l4 m4 cl.2 cm.2 fun x => ?_
    by_cases hx : x ≤ s.2.1
    · rw [l4.low (by omega), m4.low (by omega)]
    · have := h x
      rwa [valG_no (by omega), valG_no (by omega)] at this
end
end Go.FK
