/- PGF: putting into a map, and what a copy and a comparison of lists hold. My own text. -/
import Derived.Test.YthjgnnfonofgkaaPGE
import Derived.Test.YthjgnnfonofgkaaPFold
set_option linter.unusedVariables false
namespace Go.FK
open Go Go.RowKit
section
variable {V : Type} {xs : List (SpG V)} {lo hi : Int} {v z : V} {eq : V → V → Bool}
theorem put_badG (h : mayG lo hi = false) : 41 = putE xs lo hi ∧ xs = putF eq xs lo hi v := by unfold putE putF; rw [if_pos h, if_pos h]; exact ⟨rfl, rfl⟩
theorem met_some (h : (metV z (metG xs lo hi)).2.2.2 = true) : (metG xs lo hi).isSome = true := by
  cases hm : metG xs lo hi with
  | none => rw [hm] at h; exact absurd h (by simp [metV])
  | some s => rfl
theorem met_noneV (h : (metV z (metG xs lo hi)).2.2.2 = false) : metG xs lo hi = none := by
  cases hm : metG xs lo hi with
  | none => rfl
  | some s => rw [hm] at h; exact absurd h (by simp [metV])
theorem put_metG (hm : mayG lo hi = true) (h : (metV z (metG xs lo hi)).2.2.2 = true) : 42 = putE xs lo hi ∧ xs = putF eq xs lo hi v := by
  unfold putE putF; rw [if_neg (tnf hm), if_neg (tnf hm), if_pos (met_some h), if_pos (met_some h)]; exact ⟨rfl, rfl⟩
theorem put_okG (hm : mayG lo hi = true) (h : (metV z (metG xs lo hi)).2.2.2 = false) : layE lo hi = putE xs lo hi ∧ layF eq xs lo hi v = putF eq xs lo hi v := by
  have h2 := met_noneV h
  unfold putE putF layE layF
  rw [h2, if_neg (tnf hm), if_neg (tnf hm), if_neg (tnf hm), if_neg (tnf hm)]; exact ⟨rfl, rfl⟩
end
section
variable {α : Type} {a b xs pre : List α} {i : Nat} {x y : α}
theorem tk_pre (h : xs[i]? = some x) : xs.take i ++ [x] <+: xs := by
  have : xs.take i ++ [x] = xs.take (i + 1) := by rw [List.take_add_one, h]; rfl
  rw [this]; exact List.take_prefix _ _
theorem tk_snoc (h : xs[i]? = some x) : xs.take i ++ [x] = xs.take (i + 1) := by rw [List.take_add_one, h]; rfl
theorem tk_same (h : a.take i = b.take i) (hx : a[i]? = some x) (hy : b[i]? = some y) (e : x = y) : a.take (i + 1) = b.take (i + 1) := by
  rw [List.take_add_one, List.take_add_one, hx, hy, h, e]
theorem tk_all (h : a.take i = b.take i) (hl : a.length = b.length) (hi : a.length ≤ i) : a = b := by
  rwa [List.take_of_length_le hi, List.take_of_length_le (by omega)] at h
theorem tk_len (h : a.length ≠ b.length) : ¬ a = b := fun e => h (by rw [e])
theorem tk_at (hx : a[i]? = some x) (hy : b[i]? = some y) (e : x ≠ y) : ¬ a = b := by
  rintro rfl; rw [hx] at hy; exact e (Option.some.inj hy)
theorem tk_one (h : pre ++ [x] <+: xs) : xs[pre.length]? = some x := by
  obtain ⟨t, rfl⟩ := h
  rw [List.append_assoc, List.getElem?_append_right (Nat.le_refl _), Nat.sub_self]; rfl
theorem tk_lt (h : pre ++ [x] <+: xs) : pre.length < xs.length := (List.getElem?_eq_some_iff.1 (tk_one h)).1
end
theorem sp_eta {V : Type} (x : SpG V) : ((x.1, x.2.1, x.2.2) : SpG V) = x := rfl
theorem sp_ext {V : Type} {x y : SpG V} (h1 : x.1 = y.1) (h2 : x.2.1 = y.2.1) (h3 : x.2.2 = y.2.2) : x = y := by
  obtain ⟨a, b, c⟩ := x
  obtain ⟨d, e, f⟩ := y
  simp only at h1 h2 h3
  rw [h1, h2, h3]
theorem RiseG.pre {V : Type} {xs pre : List (SpG V)} {x : SpG V} (hr : RiseG 0 xs) (h : pre ++ [x] <+: xs) : 0 ≤ x.1 ∧ x.1 ≤ x.2.1 ∧ x.2.1 ≤ 1114111 := hr.at (tk_one h)
end Go.FK
