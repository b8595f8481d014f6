/- Plain functions of chapter 4: stretches with their values. -/
import Derived.Test.YtmjkegpbbhafjaaPHex
set_option linter.unusedVariables false
namespace Go.FK
open Go Go.RowKit
abbrev Sp := Int × Int × List UInt8
def encSpanS (x : Sp) : List Value := [.int .i32 x.1, .int .i32 x.2.1, S x.2.2]
def Rise (xs : List Sp) : Prop := (∀ s ∈ xs, 0 ≤ s.1 ∧ s.1 ≤ s.2.1 ∧ s.2.1 ≤ 1114111) ∧ ∀ (a b : Nat) (s t : Sp), a < b → xs[a]? = some s → xs[b]? = some t → s.2.1 < t.1
theorem Rise.at {xs : List Sp} (h : Rise xs) {i : Nat} {s : Sp} (hs : xs[i]? = some s) : 0 ≤ s.1 ∧ s.1 ≤ s.2.1 ∧ s.2.1 ≤ 1114111 := h.1 s (List.mem_of_getElem? hs)
theorem Rise.le {xs : List Sp} (h : Rise xs) {a b : Nat} {s t : Sp} (hab : a ≤ b) (hs : xs[a]? = some s) (ht : xs[b]? = some t) : s.2.1 ≤ t.2.1 := by
  rcases Nat.lt_or_ge a b with h1 | h1
  · have := h.2 a b s t h1 hs ht
    have := (h.at ht).2.1
    omega
  · obtain rfl : a = b := by omega
    rw [hs] at ht; cases ht; omega
def fromF (xs : List Sp) (x : Int) : Nat := (xs.takeWhile fun s => decide (s.2.1 < x)).length
def foundB (xs : List Sp) (x : Int) : Bool := match xs[fromF xs x]? with | some s => decide (s.2.1 = x) | none => false
theorem fromF_eq : ∀ (xs : List Sp) (x : Int) (i : Nat), i ≤ xs.length → (∀ a s, a < i → xs[a]? = some s → s.2.1 < x) → (∀ s, xs[i]? = some s → x ≤ s.2.1) → fromF xs x = i
  | [], x, i, h, _, _ => by simp at h; subst h; rfl
  | s :: l, x, 0, _, _, h2 => by
    have := h2 s rfl
    unfold fromF
    rw [List.takeWhile_cons, if_neg (by simp; omega)]; rfl
  | s :: l, x, i + 1, h, h1, h2 => by
    have hs := h1 0 s (by omega) rfl
    have ih := fromF_eq l x i (by simpa using h) (fun a t ha ht => h1 (a + 1) t (by omega) (by simpa using ht)) (fun t ht => h2 t (by simpa using ht))
    unfold fromF at ih ⊢
    rw [List.takeWhile_cons, if_pos (by simpa using hs), List.length_cons, ih]
theorem fromF_le (xs : List Sp) (x : Int) : fromF xs x ≤ xs.length := (List.takeWhile_prefix _).length_le
def lowI (xs : List Sp) (x : Int) (i : Nat) : Prop := ∀ a s, a < i → xs[a]? = some s → s.2.1 < x
def highI (xs : List Sp) (x : Int) (j : Nat) : Prop := ∀ s, xs[j]? = some s → x ≤ s.2.1
theorem low_zero (xs : List Sp) (x : Int) : lowI xs x 0 := fun a s h => by omega
theorem high_end (xs : List Sp) (x : Int) : highI xs x xs.length := fun s h => by simp at h
theorem low_step {xs : List Sp} {x : Int} {h : Nat} {s : Sp} (hr : Rise xs) (hs : xs[h]? = some s) (hx : s.2.1 < x) : lowI xs x (h + 1) := fun a t ha ht => by
  have := hr.le (show a ≤ h by omega) ht hs; omega
theorem high_step {xs : List Sp} {x : Int} {h : Nat} {s : Sp} (hs : xs[h]? = some s) (hx : x ≤ s.2.1) : highI xs x h := fun t ht => by rw [hs] at ht; cases ht; exact hx
theorem from_done {xs : List Sp} {x : Int} {i j : Nat} (hi : lowI xs x i) (hj : highI xs x j) (h1 : i ≤ j) (h2 : j ≤ i) (h3 : j ≤ xs.length) : fromF xs x = i := by
  obtain rfl : i = j := by omega
  exact fromF_eq xs x i h3 hi hj
theorem found_some {xs : List Sp} {x : Int} {i : Nat} {s : Sp} (hf : fromF xs x = i) (hs : xs[i]? = some s) : foundB xs x = decide (s.2.1 = x) := by unfold foundB; rw [hf, hs]
theorem found_none {xs : List Sp} {x : Int} {i : Nat} (hf : fromF xs x = i) (h : xs.length ≤ i) : foundB xs x = false := by unfold foundB; rw [hf, List.getElem?_eq_none h]
def atM (xs : List Sp) (x : Int) : List UInt8 × Bool :=
  if x < 0 ∨ 1114111 < x then ([], false) else match xs[fromF xs x]? with | some s => if s.1 ≤ x then (s.2.2, true) else ([], false) | none => ([], false)
theorem atM_out {xs : List Sp} {x : Int} (h : x < 0 ∨ 1114111 < x) : atM xs x = ([], false) := by unfold atM; rw [if_pos h]
theorem atM_in {xs : List Sp} {x : Int} {s : Sp} (h0 : 0 ≤ x) (h1 : x ≤ 1114111) (hs : xs[fromF xs x]? = some s) (h : s.1 ≤ x) : atM xs x = (s.2.2, true) := by unfold atM; rw [if_neg (by omega), hs]; simp only; rw [if_pos h]
theorem atM_gap {xs : List Sp} {x : Int} {s : Sp} (h0 : 0 ≤ x) (h1 : x ≤ 1114111) (hs : xs[fromF xs x]? = some s) (h : x < s.1) : atM xs x = ([], false) := by unfold atM; rw [if_neg (by omega), hs]; simp only; rw [if_neg (by omega)]
theorem atM_end {xs : List Sp} {x : Int} (h0 : 0 ≤ x) (h1 : x ≤ 1114111) (h : xs.length ≤ fromF xs x) : atM xs x = ([], false) := by unfold atM; rw [if_neg (by omega), List.getElem?_eq_none h]
def sizeM (xs : List Sp) : Int := xs.foldl (fun n s => n + (s.2.1 - s.1 + 1)) 0
theorem sizeM_take {xs : List Sp} {i : Nat} {s : Sp} (h : xs[i]? = some s) : sizeM (xs.take i) + (s.2.1 - s.1 + 1) = sizeM (xs.take (i + 1)) := by
  unfold sizeM
  rw [show xs.take (i + 1) = xs.take i ++ [s] by rw [List.take_add_one, h]; rfl, List.foldl_append]; rfl
theorem sizeM_le {xs : List Sp} (h : Rise xs) : ∀ i, i ≤ xs.length → 0 ≤ sizeM (xs.take i) ∧ sizeM (xs.take i) ≤ 1114112 * i := by
  intro i
  induction i with
  | zero => intro _; simp [sizeM]
  | succ i ih =>
    intro hi
    have h1 := ih (by omega)
    have hs : xs[i]? = some xs[i] := List.getElem?_eq_getElem (by omega)
    have := h.at hs
    rw [← sizeM_take hs]
    omega
end Go.FK
namespace Go.FK
def meetsM (xs : List Sp) (lo hi : Int) : Int × Int × List UInt8 × Bool :=
  if mayF lo hi = false then (0, 0, [], false) else match xs[fromF xs lo]? with | some s => if s.1 ≤ hi then (s.1, s.2.1, s.2.2, true) else (0, 0, [], false) | none => (0, 0, [], false)
theorem meetsM_may {xs : List Sp} {lo hi : Int} (h : mayF lo hi = false) : meetsM xs lo hi = (0, 0, [], false) := by unfold meetsM; rw [if_pos h]
theorem meetsM_yes {xs : List Sp} {lo hi : Int} {s : Sp} (h : mayF lo hi = true) (hs : xs[fromF xs lo]? = some s) (h1 : s.1 ≤ hi) : meetsM xs lo hi = (s.1, s.2.1, s.2.2, true) := by unfold meetsM; rw [if_neg (by rw [h]; decide), hs]; simp only; rw [if_pos h1]
theorem meetsM_no {xs : List Sp} {lo hi : Int} {s : Sp} (h : mayF lo hi = true) (hs : xs[fromF xs lo]? = some s) (h1 : hi < s.1) : meetsM xs lo hi = (0, 0, [], false) := by unfold meetsM; rw [if_neg (by rw [h]; decide), hs]; simp only; rw [if_neg (by omega)]
theorem meetsM_end {xs : List Sp} {lo hi : Int} (h : mayF lo hi = true) (hs : xs.length ≤ fromF xs lo) : meetsM xs lo hi = (0, 0, [], false) := by unfold meetsM; rw [if_neg (by rw [h]; decide), List.getElem?_eq_none hs]
theorem mayF_b {lo hi : Int} (h : mayF lo hi = true) : 0 ≤ lo ∧ lo ≤ hi ∧ hi ≤ 1114111 := of_decide_eq_true h
end Go.FK
