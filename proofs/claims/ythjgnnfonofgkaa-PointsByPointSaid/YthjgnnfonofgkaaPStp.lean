/- PStp: a step of chapter 4's scripts; what a map answers at each code point that is asked for. My own text. -/
import Derived.Test.YthjgnnfonofgkaaPCov
import Derived.Test.YthjgnnfonofgkaaFKaj
set_option linter.unusedVariables false
namespace Go.FK
open Go Go.RowKit
/-- What to do, on which maps, how many, the range, the value. -/
abbrev StepV := Int × Int × Int × Int × Int × Rg × List UInt8
def encStep (x : StepV) : List Value := [.int .i64 x.1, .int .i64 x.2.1, .int .i64 x.2.2.1, .int .i64 x.2.2.2.1, .int .i64 x.2.2.2.2.1, .int .i32 x.2.2.2.2.2.1.1, .int .i32 x.2.2.2.2.2.1.2, S x.2.2.2.2.2.2]
theorem set_here {α : Type} {l : List α} {i : Nat} {x y : α} (h : l[i]? = some x) : (l.set i y)[i]? = some y := by
  rw [List.getElem?_set_self (List.getElem?_eq_some_iff.1 h).1]
section
variable {m : List SpI} {look val : List Int} {has : List Bool} {k : Nat} {x v : Int} {b : Bool}
theorem point_at (h : pointI m look val has) (hr : RiseG 0 m) (hx : look[k]? = some x) (hv : val[k]? = some v) (hb : has[k]? = some b) : atG 0 m x = if b = true then (v, true) else (0, false) := by
  rw [at_val hr, h.2.2 k x v b hx hv hb]
  cases b <;> rfl
theorem point_has (h : pointI m look val has) (hr : RiseG 0 m) (hx : look[k]? = some x) (hb : has[k]? = some b) : (atG 0 m x).2 = b := by
  have hk := (List.getElem?_eq_some_iff.1 hx).1
  have hv : val[k]? = some (val[k]'(by have := h.1; omega)) := List.getElem?_eq_getElem _
  rw [point_at h hr hx hv hb]
  cases b <;> rfl
theorem point_val (h : pointI m look val has) (hr : RiseG 0 m) (hx : look[k]? = some x) (hv : val[k]? = some v) (h2 : (atG 0 m x).2 = true) : (atG 0 m x).1 = v := by
  have hk := (List.getElem?_eq_some_iff.1 hx).1
  have hb : has[k]? = some (has[k]'(by have := h.2.1; omega)) := List.getElem?_eq_getElem _
  have h3 := point_has h hr hx hb
  rw [point_at h hr hx hv hb, ← h3, h2]; rfl
theorem atG_zero {V : Type} {z : V} {m : List (SpG V)} (h2 : (atG z m x).2 = false) : (atG z m x).1 = z := by
  unfold atG at *
  cases hq : (if inR x = true then valG m x else none) with
  | none => rfl
  | some v => rw [hq] at h2; cases h2
theorem point_lens (h : pointI m look val has) : look.length = val.length ∧ look.length = has.length := ⟨h.1, h.2.1⟩
theorem pointJ_lens {m2 : List SpI} (h : pointJ m m2 look val has k) : look.length = val.length ∧ look.length = has.length := ⟨h.1, h.2.1⟩
end
end Go.FK
