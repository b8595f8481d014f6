/- Plain laws of replacing a part of a list. -/
import Derived.Test.YtmjkegpbbhafjaaPMap
import Derived.Test.YtmjkegpbbhafjaaFKs
namespace Go.FK
theorem rep_same {α : Type} {s vs : List α} {i j : Nat} (h : i = j) (hp : vs.length = 0 ∨ i = s.length) : s ++ vs = List.take i s ++ vs ++ List.drop j s := by
  subst h
  rcases hp with hp | hp
  · obtain rfl : vs = [] := List.eq_nil_of_length_eq_zero hp
    simp
  · subst hp; simp
theorem rep_end {α : Type} {s vs : List α} {i j : Nat} (h : j = s.length) : List.take i s ++ vs = List.take i s ++ vs ++ List.drop j s := by
  subst h; simp
end Go.FK
