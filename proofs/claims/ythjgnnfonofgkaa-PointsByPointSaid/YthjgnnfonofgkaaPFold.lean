/- PFold: maps laid over one another, maps turned, how many code points have a value. My own text. -/
import Derived.Test.YthjgnnfonofgkaaPGM
set_option linter.unusedVariables false
namespace Go.FK
section
variable {V W : Type} {eq : V → V → Bool}
/-- All stretches of a map laid over another. -/
def layAll (eq : V → V → Bool) (m xs : List (SpG V)) : List (SpG V) := xs.foldl (fun m s => layF eq m s.1 s.2.1 s.2.2) m
def turnAll (eq : W → W → Bool) (f : V → W) (xs : List (SpG V)) : List (SpG W) := xs.foldl (fun m s => layF eq m s.1 s.2.1 (f s.2.2)) []
theorem layAll_snoc (m xs : List (SpG V)) (s : SpG V) : layAll eq m (xs ++ [s]) = layF eq (layAll eq m xs) s.1 s.2.1 s.2.2 := by unfold layAll; rw [List.foldl_append]; rfl
theorem turnAll_snoc {eq : W → W → Bool} (f : V → W) (xs : List (SpG V)) (s : SpG V) : turnAll eq f (xs ++ [s]) = layF eq (turnAll eq f xs) s.1 s.2.1 (f s.2.2) := by unfold turnAll; rw [List.foldl_append]; rfl
/-- A map that may be: rising, in its one form. -/
structure MapOk (eq : V → V → Bool) (xs : List (SpG V)) : Prop where
  rise : RiseG 0 xs
  can : CanG eq none xs
theorem MapOk.nil : MapOk eq [] := ⟨trivial, trivial⟩
theorem MapOk.lay (hE : ∀ a b, eq a b = true ↔ a = b) {xs : List (SpG V)} (h : MapOk eq xs) (lo hi : Int) (v : V) : MapOk eq (layF eq xs lo hi v) := ⟨layF_rise h.rise, layF_can hE h.rise h.can⟩
theorem MapOk.put (hE : ∀ a b, eq a b = true ↔ a = b) {xs : List (SpG V)} (h : MapOk eq xs) (lo hi : Int) (v : V) : MapOk eq (putF eq xs lo hi v) := ⟨putF_rise h.rise, putF_can hE h.rise h.can⟩
theorem MapOk.cut {xs : List (SpG V)} (h : MapOk eq xs) (lo hi : Int) : MapOk eq (cutF xs lo hi) := ⟨cutF_rise h.rise, cutF_can h.rise h.can⟩
theorem layF_val (hE : ∀ a b, eq a b = true ↔ a = b) {xs : List (SpG V)} (h : RiseG 0 xs) {lo hi : Int} (hm : mayG lo hi = true) (v : V) (x : Int) : valG (layF eq xs lo hi v) x = if lo ≤ x ∧ x ≤ hi then some v else valG xs x := by
  unfold layF; rw [if_neg (by rw [hm]; decide)]; exact layG_val hE h hm x
theorem foldLay {eq : W → W → Bool} (hE : ∀ a b, eq a b = true ↔ a = b) (f : V → W) : ∀ (xs : List (SpG V)) (b : Int) (m : List (SpG W)), 0 ≤ b → RiseG b xs → MapOk eq m →
    MapOk eq (xs.foldl (fun m s => layF eq m s.1 s.2.1 (f s.2.2)) m) ∧ ∀ x, valG (xs.foldl (fun m s => layF eq m s.1 s.2.1 (f s.2.2)) m) x = ((valG xs x).map f).or (valG m x)
  | [], b, m, _, _, hm => ⟨hm, fun x => by simp [valG_nil]⟩
  | s :: l, b, m, hb, h, hm => by
    obtain ⟨h1, h2, h3, h4⟩ := h
    have hmay : mayG s.1 s.2.1 = true := decide_eq_true ⟨by omega, h2, h3⟩
    have ih := foldLay hE f l (s.2.1 + 1) (layF eq m s.1 s.2.1 (f s.2.2)) (by omega) h4 (hm.lay hE _ _ _)
    refine ⟨ih.1, fun x => ?_⟩
    rw [List.foldl_cons, ih.2 x, layF_val hE hm.rise hmay]
    by_cases hx : s.1 ≤ x ∧ x ≤ s.2.1
    · rw [if_pos hx, valG_yes hx, h4.low (by omega)]; rfl
    · rw [if_neg hx, valG_no (by omega)]
theorem layAll_ok (hE : ∀ a b, eq a b = true ↔ a = b) {xs m : List (SpG V)} (h : RiseG 0 xs) (hm : MapOk eq m) : MapOk eq (layAll eq m xs) ∧ ∀ x, valG (layAll eq m xs) x = (valG xs x).or (valG m x) := by
  have := foldLay hE id xs 0 m (Int.le_refl _) h hm
  refine ⟨this.1, fun x => ?_⟩
  have h2 := this.2 x
  rw [Option.map_id] at h2
  exact h2
theorem turnAll_ok {eq : W → W → Bool} (hE : ∀ a b, eq a b = true ↔ a = b) (f : V → W) {xs : List (SpG V)} (h : RiseG 0 xs) : MapOk eq (turnAll eq f xs) ∧ ∀ x, valG (turnAll eq f xs) x = (valG xs x).map f := by
  have := foldLay hE f xs 0 [] (Int.le_refl _) h MapOk.nil
  refine ⟨this.1, fun x => ?_⟩
  have h2 := this.2 x
  rw [valG_nil, Option.or_none] at h2
  exact h2
theorem MapOk.one (hE : ∀ a b, eq a b = true ↔ a = b) {l m : List (SpG V)} (hl : MapOk eq l) (hm : MapOk eq m) (h : ∀ x, valG l x = valG m x) : l = m := one_form eq hE hl.rise hm.rise hl.can hm.can h
def overF (eq : V → V → Bool) (a b : List (SpG V)) : List (SpG V) := layAll eq (layAll eq [] a) b
theorem overF_ok (hE : ∀ a b, eq a b = true ↔ a = b) {a b : List (SpG V)} (ha : RiseG 0 a) (hb : RiseG 0 b) : MapOk eq (overF eq a b) ∧ ∀ x, valG (overF eq a b) x = (valG b x).or (valG a x) := by
  have h1 := layAll_ok hE ha (MapOk.nil (eq := eq))
  have h2 := layAll_ok hE hb h1.1
  refine ⟨h2.1, fun x => ?_⟩
  unfold overF
  rw [h2.2, h1.2, valG_nil, Option.or_none]
theorem over_assoc (hE : ∀ a b, eq a b = true ↔ a = b) {a b c : List (SpG V)} (ha : RiseG 0 a) (hb : RiseG 0 b) (hc : RiseG 0 c) : overF eq (overF eq a b) c = overF eq a (overF eq b c) := by
  have h1 := overF_ok hE ha hb
  have h2 := overF_ok hE hb hc
  have h3 := overF_ok hE h1.1.rise hc
  have h4 := overF_ok hE ha h2.1.rise
  refine h3.1.one hE h4.1 fun x => ?_
  rw [h3.2, h4.2, h1.2, h2.2, Option.or_assoc]
theorem over_self (hE : ∀ a b, eq a b = true ↔ a = b) {a : List (SpG V)} (ha : MapOk eq a) : overF eq a a = a := by
  have h1 := overF_ok hE ha.rise ha.rise
  exact h1.1.one hE ha fun x => by rw [h1.2]; cases valG a x <;> rfl
theorem over_nil (hE : ∀ a b, eq a b = true ↔ a = b) {a : List (SpG V)} (ha : MapOk eq a) : overF eq a [] = a := by
  have h1 := overF_ok hE ha.rise (b := []) trivial
  exact h1.1.one hE ha fun x => by rw [h1.2, valG_nil]; rfl
theorem nil_over (hE : ∀ a b, eq a b = true ↔ a = b) {a : List (SpG V)} (ha : MapOk eq a) : overF eq [] a = a := by
  have h1 := overF_ok hE (a := []) trivial ha.rise
  exact h1.1.one hE ha fun x => by rw [h1.2, valG_nil, Option.or_none]
theorem turn_turn {U : Type} {eqW : W → W → Bool} {eqU : U → U → Bool} (hW : ∀ a b, eqW a b = true ↔ a = b) (hU : ∀ a b, eqU a b = true ↔ a = b) (f : V → W) (g : W → U) {a : List (SpG V)} (ha : RiseG 0 a) : turnAll eqU g (turnAll eqW f a) = turnAll eqU (fun v => g (f v)) a := by
  have h1 := turnAll_ok hW f ha
  have h2 := turnAll_ok hU g h1.1.rise
  have h3 := turnAll_ok hU (fun v => g (f v)) ha
  refine h2.1.one hU h3.1 fun x => ?_
  rw [h2.2, h1.2, h3.2]
  cases valG a x <;> rfl
/-! ### how many code points have a value -/
def cntB (P : Int → Bool) (b : Int) : Nat → Int
  | 0 => 0
  | n + 1 => (if P b = true then 1 else 0) + cntB P (b + 1) n
theorem cntB_succ (P : Int → Bool) (b : Int) (n : Nat) : cntB P b (n + 1) = (if P b = true then 1 else 0) + cntB P (b + 1) n := rfl
theorem cntB_congr {P Q : Int → Bool} : ∀ (n : Nat) (b : Int), (∀ x, b ≤ x → P x = Q x) → cntB P b n = cntB Q b n
  | 0, _, _ => rfl
  | n + 1, b, h => by
    unfold cntB
    rw [h b (Int.le_refl _), cntB_congr n (b + 1) fun x hx => h x (by omega)]
theorem cntB_add (P : Int → Bool) : ∀ (m n : Nat) (b : Int), cntB P b (m + n) = cntB P b m + cntB P (b + m) n
  | 0, n, b => by simp [cntB]
  | m + 1, n, b => by
    rw [show m + 1 + n = m + n + 1 by omega]
    rw [cntB_succ, cntB_succ, cntB_add P m n (b + 1), show b + 1 + (m : Int) = b + ((m + 1 : Nat) : Int) by omega]
    omega
theorem cntB_none {P : Int → Bool} : ∀ (n : Nat) (b : Int), (∀ x, b ≤ x → x < b + n → P x = false) → cntB P b n = 0
  | 0, _, _ => rfl
  | n + 1, b, h => by
    unfold cntB
    rw [h b (Int.le_refl _) (by omega), cntB_none n (b + 1) fun x h1 h2 => h x (by omega) (by omega)]; rfl
theorem cntB_all {P : Int → Bool} : ∀ (n : Nat) (b : Int), (∀ x, b ≤ x → x < b + n → P x = true) → cntB P b n = n
  | 0, _, _ => rfl
  | n + 1, b, h => by
    unfold cntB
    rw [h b (Int.le_refl _) (by omega), cntB_all n (b + 1) fun x h1 h2 => h x (by omega) (by omega)]
    simp; omega
theorem sizeG_cons (s : SpG V) (l : List (SpG V)) : sizeG (s :: l) = (s.2.1 - s.1 + 1) + sizeG l := by
  have key : ∀ (l : List (SpG V)) (n : Int), l.foldl (fun n s => n + (s.2.1 - s.1 + 1)) n = n + l.foldl (fun n s => n + (s.2.1 - s.1 + 1)) 0 := by
    intro l
    induction l with
    | nil => intro n; simp
    | cons s l ih => intro n; rw [List.foldl_cons, List.foldl_cons, ih, ih (0 + _)]; omega
  unfold sizeG
  rw [List.foldl_cons, key]; omega
theorem size_cnt : ∀ {xs : List (SpG V)} {b : Int} (n : Nat), RiseG b xs → b + n = 1114112 → sizeG xs = cntB (fun x => (valG xs x).isSome) b n
  | [], b, n, _, _ => by rw [cntB_none]; · rfl
                         · intros; rfl
  | s :: l, b, n, h, hn => by
    obtain ⟨h1, h2, h3, h4⟩ := h
    obtain ⟨p, hp⟩ : ∃ p : Nat, (p : Int) = s.1 - b := ⟨(s.1 - b).toNat, by omega⟩
    obtain ⟨q, hq⟩ : ∃ q : Nat, (q : Int) = s.2.1 - s.1 + 1 := ⟨(s.2.1 - s.1 + 1).toNat, by omega⟩
    obtain ⟨r, hr⟩ : ∃ r : Nat, (r : Int) = 1114111 - s.2.1 := ⟨(1114111 - s.2.1).toNat, by omega⟩
    have e : n = p + (q + r) := by omega
    rw [e, cntB_add, cntB_add, sizeG_cons, size_cnt r h4 (by omega)]
    rw [cntB_none p b fun x hx hx2 => by rw [RiseG.low (l := s :: l) (b := s.1) ⟨Int.le_refl _, h2, h3, h4⟩ (by omega)]; rfl]
    rw [cntB_all q (b + p) fun x hx hx2 => by rw [valG_yes (by omega)]; rfl]
    rw [cntB_congr r (b + p + q) (P := fun x => (valG (s :: l) x).isSome) (Q := fun x => (valG l x).isSome) fun x hx => by rw [valG_no (by omega)]]
    rw [show b + (p : Int) + q = s.2.1 + 1 by omega]
    omega
theorem size_same {a : List (SpG V)} {b : List (SpG W)} (ha : RiseG 0 a) (hb : RiseG 0 b) (h : ∀ x, (valG a x).isSome = (valG b x).isSome) : sizeG a = sizeG b := by
  rw [size_cnt 1114112 ha (by decide), size_cnt 1114112 hb (by decide)]
  exact cntB_congr _ _ fun x _ => h x
theorem turn_size {eq : W → W → Bool} (hE : ∀ a b, eq a b = true ↔ a = b) (f : V → W) {a : List (SpG V)} (ha : RiseG 0 a) : sizeG (turnAll eq f a) = sizeG a := by
  have h := turnAll_ok hE f ha
  exact size_same h.1.rise ha fun x => by rw [h.2]; simp
theorem mem_val {xs : List (SpG V)} {b : Int} (h : RiseG b xs) {s : SpG V} (hs : s ∈ xs) {x : Int} (hx : s.1 ≤ x ∧ x ≤ s.2.1) : valG xs x = some s.2.2 := by
  obtain ⟨A, B, rfl⟩ := List.append_of_mem hs
  have h2 := rise_app.1 h
  rw [valG_app, valG_yes hx]
  have : valG A x = none := by
    unfold valG
    rw [List.find?_eq_none.2 (fun t ht => by rw [inS_no (by have := (h2.2.2 t ht).1; omega)]; decide)]; rfl
  rw [this]; rfl
theorem turn_const {eq : W → W → Bool} (hE : ∀ a b, eq a b = true ↔ a = b) (w : W) {a : List (SpG V)} (ha : RiseG 0 a) {s : SpG W} (hs : s ∈ turnAll eq (fun _ => w) a) : s.2.2 = w := by
  have h := turnAll_ok hE (fun _ : V => w) ha
  have h1 := h.1.rise.mem s hs
  have h2 := mem_val h.1.rise hs (x := s.1) ⟨Int.le_refl _, h1.2.1⟩
  rw [h.2] at h2
  cases hv : valG a s.1 with
  | none => rw [hv] at h2; cases h2
  | some u => rw [hv] at h2; exact (Option.some.inj h2).symm
end
end Go.FK
