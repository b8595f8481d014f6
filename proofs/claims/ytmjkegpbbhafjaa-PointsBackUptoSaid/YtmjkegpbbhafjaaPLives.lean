/- The one stretch of a small map. -/
import Derived.Test.YtmjkegpbbhafjaaPLay
namespace Go.FK
open Go Go.RowKit
theorem one_el {x a : Sp} {pre : List Sp} (h : pre ++ [x] <+: [a]) : x = a := by
  obtain ⟨t, ht⟩ := h
  cases pre with
  | nil => simp at ht; exact ht.1
  | cons y l => simp at ht
end Go.FK
