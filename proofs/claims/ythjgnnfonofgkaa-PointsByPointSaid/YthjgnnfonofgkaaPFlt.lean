/- PFlt: values that need not be like themselves: numbers with a point, by their bits. My own text. -/
import Derived.Test.YthjgnnfonofgkaaPOne
import Derived.Test.YthjgnnfonofgkaaPGL
set_option linter.unusedVariables false
namespace Go.FK
open Go
abbrev SpF := SpG Nat
def encFlt (x : Nat) : List Value := [.float .f64 x]
def encSpanF (x : SpF) : List Value := [.int .i32 x.1, .int .i32 x.2.1, .float .f64 x.2.2]
def eqF (a b : Nat) : Bool := FloatKind.f64.format.order a b == some .eq
theorem eqF_y {a b : Nat} (h : eqF a b = true) : eqF a b = true := h
theorem eqF_n {a b : Nat} (h : eqF a b = false) : eqF a b = false := h
/-! ### whatever the comparison of values is -/
section
variable {V : Type} {eq : V → V → Bool} {xs : List (SpG V)} {lo hi : Int} {v : V}
theorem layF_in (hr : RiseG 0 xs) (hm : mayG lo hi = true) {x : Int} (h1 : lo ≤ x) (h2 : x ≤ hi) : valG (layF eq xs lo hi v) x = some v := by
  unfold layF; rw [if_neg (by rw [hm]; decide)]
  have := layG_rel (eq := eq) (v := v) hr hm x
  rw [if_pos ⟨h1, h2⟩] at this; exact this
theorem rel_some {a b : Option V} (h : RelG eq v a b) : a.isSome = b.isSome := by
  unfold RelG at h
  cases a <;> cases b <;> simp_all
theorem put_at {z : V} (hr : RiseG 0 xs) (he : putE xs lo hi = 0) {x : Int} (h1 : lo ≤ x) (h2 : x ≤ hi) : atG z (putF eq xs lo hi v) x = (v, true) := by
  have hp := putE_ok he
  have hb := mayG_b hp.1
  rw [putF_ok he]
  have h := layF_in (eq := eq) (v := v) hr hp.1 h1 h2
  unfold layF at h; rw [if_neg (by rw [hp.1]; decide)] at h
  unfold atG
  rw [if_pos (by simp [inR]; omega), h]; rfl
theorem put_size (hr : RiseG 0 xs) (he : putE xs lo hi = 0) : sizeG (putF eq xs lo hi v) = sizeG xs + (hi - lo + 1) := by
  have hp := putE_ok he
  have hb := mayG_b hp.1
  have hr2 : RiseG 0 (putF eq xs lo hi v) := putF_rise hr
  rw [size_cnt 1114112 hr2 (by decide), size_cnt 1114112 hr (by decide)]
  have hv : ∀ x, lo ≤ x → x ≤ hi → (valG (putF eq xs lo hi v) x).isSome = true ∧ (valG xs x).isSome = false := fun x h1 h2 => by
    rw [putF_ok he]
    have h := layG_rel (eq := eq) (v := v) hr hp.1 x
    rw [if_pos ⟨h1, h2⟩] at h
    rw [h, met_none hr hp.1 hp.2 h1 h2]; exact ⟨rfl, rfl⟩
  have hn : ∀ x, (x < lo ∨ hi < x) → (valG (putF eq xs lo hi v) x).isSome = (valG xs x).isSome := fun x h1 => by
    rw [putF_ok he]
    have h := layG_rel (eq := eq) (v := v) hr hp.1 x
    rw [if_neg (by omega)] at h
    exact rel_some h
  obtain ⟨p, hp2⟩ : ∃ p : Nat, (p : Int) = lo := ⟨lo.toNat, by omega⟩
  obtain ⟨q, hq⟩ : ∃ q : Nat, (q : Int) = hi - lo + 1 := ⟨(hi - lo + 1).toNat, by omega⟩
  obtain ⟨r, hr3⟩ : ∃ r : Nat, (r : Int) = 1114111 - hi := ⟨(1114111 - hi).toNat, by omega⟩
  have e : 1114112 = p + (q + r) := by omega
  rw [e, cntB_add, cntB_add, cntB_add, cntB_add]
  have c1 : ∀ (b : Int) (n : Nat), b + n ≤ lo → cntB (fun x => (valG (putF eq xs lo hi v) x).isSome) b n = cntB (fun x => (valG xs x).isSome) b n := by
    intro b n
    induction n generalizing b with
    | zero => intro _; rfl
    | succ n ih => intro h; rw [cntB_succ, cntB_succ, ih (b + 1) (by omega), hn b (by omega)]
  rw [c1 0 p (by omega)]
  rw [cntB_all q (0 + p) fun x h1 h2 => (hv x (by omega) (by omega)).1, cntB_none q (0 + p) fun x h1 h2 => (hv x (by omega) (by omega)).2]
  rw [cntB_congr r (0 + p + q) (P := fun x => (valG (putF eq xs lo hi v) x).isSome) (Q := fun x => (valG xs x).isSome) fun x hx => hn x (by omega)]
  omega
end
theorem cntB_bd (P : Int → Bool) : ∀ (n : Nat) (b : Int), 0 ≤ cntB P b n ∧ cntB P b n ≤ n
  | 0, b => ⟨Int.le_refl _, Int.le_refl _⟩
  | n + 1, b => by have := cntB_bd P n (b + 1); rw [cntB_succ]; split <;> omega
theorem size_bd {V : Type} {xs : List (SpG V)} (hr : RiseG 0 xs) : 0 ≤ sizeG xs ∧ sizeG xs ≤ 1114112 := by
  rw [size_cnt 1114112 hr (by decide)]; exact cntB_bd _ _ _
theorem flt_no {M : List SpF} {x : Int} {v : Nat} (h : atG 0 M x = (v, true)) (h1 : eqF (atG 0 M x).1 v = false) (h2 : eqF (atG 0 M x).1 (atG 0 M x).1 = true) : False := by
  rw [h] at h1 h2; rw [h1] at h2; cases h2
theorem flt_no2 {M : List SpF} {x : Int} {v : Nat} (h : atG 0 M x = (v, true)) (h1 : eqF (atG 0 M x).1 v = false) (h2 : eqF v v = true) : False := by
  rw [h] at h1; rw [h1] at h2; cases h2
theorem rise_pre {V : Type} {xs pre : List (SpG V)} {x : SpG V} (hr : RiseG 0 xs) (h : pre ++ [x] <+: xs) : RiseG 0 pre := by
  obtain ⟨t, rfl⟩ := h
  rw [List.append_assoc] at hr
  exact (rise_app.1 hr).1
theorem size_pre {V : Type} (pre : List (SpG V)) (x : SpG V) : sizeG pre + (x.2.1 - x.1) + 1 = sizeG (pre ++ [x]) := by
  unfold sizeG; rw [List.foldl_append]; simp only [List.foldl_cons, List.foldl_nil]; omega
/-- Where the stretches that have come end. -/
def lastH {V : Type} (pre : List (SpG V)) : Int := match pre.getLast? with | some s => s.2.1 | none => -1
theorem last_snoc {V : Type} (pre : List (SpG V)) (x : SpG V) : lastH (pre ++ [x]) = x.2.1 := by unfold lastH; rw [List.getLast?_append]; rfl
theorem last_lt {V : Type} {xs pre : List (SpG V)} {x : SpG V} (hr : RiseG 0 xs) (h : pre ++ [x] <+: xs) : lastH pre < x.1 := by
  have hx := hr.pre h
  unfold lastH
  cases hl : pre.getLast? with
  | none => simp only; omega
  | some s =>
    obtain ⟨A, rfl⟩ : ∃ A, pre = A ++ [s] := by
      have hne : pre ≠ [] := fun e => by rw [e] at hl; cases hl
      refine ⟨pre.dropLast, ?_⟩
      rw [List.getLast?_eq_some_getLast hne] at hl
      cases hl
      exact (List.dropLast_concat_getLast hne).symm
    have h1 : xs[A.length]? = some s := tk_one (pre := A) ((List.prefix_append _ _).trans h)
    have h2 := tk_one h
    exact rise_lt hr (by simp) h1 h2
end Go.FK
