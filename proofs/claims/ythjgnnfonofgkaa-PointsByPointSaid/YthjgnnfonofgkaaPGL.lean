/- PGL: small facts that the laws of chapter 4 over maps lean on. My own text. -/
import Derived.Test.YthjgnnfonofgkaaPGF
import Derived.Test.YthjgnnfonofgkaaPFold
set_option linter.unusedVariables false
namespace Go.FK
open Go
def encBool (b : Bool) : List Value := [.bool b]
theorem tk_single {α : Type} {x a : α} {pre : List α} (h : pre ++ [x] <+: [a]) : x = a := by
  obtain ⟨t, ht⟩ := h
  cases pre with
  | nil => simp at ht; exact ht.1
  | cons y l => simp at ht
end Go.FK
