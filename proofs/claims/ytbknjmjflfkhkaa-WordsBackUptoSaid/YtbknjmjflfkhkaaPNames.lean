/- Plain laws for the names of classes and sides. -/
import Derived.Test.YtbknjmjflfkhkaaPUtf
set_option linter.unusedVariables false
namespace Go.FK
open Go Go.RowKit
theorem classN_cases (name : List UInt8) : ∀ (n : Nat) (c : Int), 1 ≤ c → (1 ≤ (classN name n c).1 ∧ (classN name n c).1 ≤ 23 ∧ (classN name n c).2 = 0) ∨ ((classN name n c).1 = 0 ∧ (classN name n c).2 = 50) := by
  intro n
  induction n with
  | zero => intro c h; right; exact ⟨rfl, rfl⟩
  | succ n ih =>
    intro c h
    unfold classN
    split
    · split
      · left; exact ⟨h, by assumption, rfl⟩
      · split
        · left; exact ⟨h, by assumption, rfl⟩
        · exact ih (c + 1) (by omega)
    · right; exact ⟨rfl, rfl⟩
theorem classF_cases (name : List UInt8) : (1 ≤ (classF name).1 ∧ (classF name).1 ≤ 23 ∧ (classF name).2 = 0) ∨ ((classF name).1 = 0 ∧ (classF name).2 = 50) := classN_cases name _ 1 (by omega)
theorem looseLits : looseS (letterS 0) = [110] ∧ looseS (letterS 1) = [111] ∧ looseS (letterS 2) = [99] ∧ looseS [78, 111, 110, 101] = [110, 111, 110, 101] ∧ looseS [79, 112, 101, 110] = [111, 112, 101, 110] ∧ looseS [67, 108, 111, 115, 101] = [99, 108, 111, 115, 101] := by
  refine ⟨by kernel_rfl, by kernel_rfl, by kernel_rfl, by kernel_rfl, by kernel_rfl, by kernel_rfl⟩
theorem sideF_eq (s : List UInt8) : sideF s = if looseS s = [110] then (0, 0) else if looseS s = [110, 111, 110, 101] then (0, 0) else if looseS s = [111] then (1, 0) else if looseS s = [111, 112, 101, 110] then (1, 0) else if looseS s = [99] then (2, 0) else if looseS s = [99, 108, 111, 115, 101] then (2, 0) else (0, 51) := by
  unfold sideF
  obtain ⟨h0, h1, h2, h3, h4, h5⟩ := looseLits
  rw [sideFrom_step (k := 0) rfl, sideFrom_step (k := 1) rfl, sideFrom_step (k := 2) rfl, sideFrom_end (k := 3) (by omega)]
  have e0 : ((0 : Nat) : Int) = 0 := rfl
  have e1 : ((0 + 1 : Nat) : Int) = 1 := rfl
  have e2 : ((1 + 1 : Nat) : Int) = 2 := rfl
  have e1' : ((1 : Nat) : Int) = 1 := rfl
  simp only [alikeB, e0, e1, e2, e1', h0, h1, h2, h3, h4, h5, decide_eq_true_eq]
end Go.FK
