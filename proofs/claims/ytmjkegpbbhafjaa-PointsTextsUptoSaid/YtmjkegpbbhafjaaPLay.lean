/- Plain functions of chapter 4: cutting and laying where nothing is met. -/
import Derived.Test.YtmjkegpbbhafjaaPRep
set_option linter.unusedVariables false
namespace Go.FK
open Go Go.RowKit
/-- The range meets no stretch. -/
def freeAt (xs : List Sp) (lo hi : Int) : Bool := match xs[fromF xs lo]? with | some s => decide (hi < s.1) | none => true
theorem freeAt_some {xs : List Sp} {lo hi : Int} {s : Sp} (h : freeAt xs lo hi = true) (hs : xs[fromF xs lo]? = some s) : hi < s.1 := by unfold freeAt at h; rw [hs] at h; exact of_decide_eq_true h
theorem rep_id {α : Type} {s vs : List α} {i j : Nat} (h : i = j) (hp : vs.length = 0) : List.take i s ++ vs ++ List.drop j s = s := by
  subst h
  obtain rfl : vs = [] := List.eq_nil_of_length_eq_zero hp
  simp
/-- Where a stretch that is laid begins, and before which. -/
def leftF (xs : List Sp) (lo : Int) (v : List UInt8) : Nat × Int :=
  match (if fromF xs lo = 0 then none else xs[fromF xs lo - 1]?) with
  | some s => if s.2.1 + 1 = lo ∧ s.2.2 = v then (fromF xs lo - 1, s.1) else (fromF xs lo, lo)
  | none => (fromF xs lo, lo)
def rightF (xs : List Sp) (lo hi : Int) (v : List UInt8) : Nat × Int :=
  match xs[fromF xs lo]? with
  | some s => if s.1 = hi + 1 ∧ s.2.2 = v then (fromF xs lo + 1, s.2.1) else (fromF xs lo, hi)
  | none => (fromF xs lo, hi)
def layM (xs : List Sp) (lo hi : Int) (v : List UInt8) : List Sp := xs.take (leftF xs lo v).1 ++ [((leftF xs lo v).2, (rightF xs lo hi v).2, v)] ++ xs.drop (rightF xs lo hi v).1
theorem left_zero {xs : List Sp} {lo : Int} {v : List UInt8} (h : fromF xs lo = 0) : leftF xs lo v = (fromF xs lo, lo) := by unfold leftF; rw [if_pos h]
theorem left_no {xs : List Sp} {lo : Int} {v : List UInt8} {s : Sp} (h : fromF xs lo ≠ 0) (hs : xs[fromF xs lo - 1]? = some s) (h2 : s.2.1 + 1 ≠ lo ∨ s.2.2 ≠ v) : leftF xs lo v = (fromF xs lo, lo) := by
  unfold leftF; rw [if_neg h, hs]; simp only; rw [if_neg (fun h => h2.elim (fun k => k h.1) (fun k => k h.2))]
theorem left_yes {xs : List Sp} {lo : Int} {v : List UInt8} {s : Sp} (h : fromF xs lo ≠ 0) (hs : xs[fromF xs lo - 1]? = some s) (h1 : s.2.1 + 1 = lo) (h2 : s.2.2 = v) : leftF xs lo v = (fromF xs lo - 1, s.1) := by
  unfold leftF; rw [if_neg h, hs]; simp only; rw [if_pos ⟨h1, h2⟩]
theorem right_end {xs : List Sp} {lo hi : Int} {v : List UInt8} (h : xs.length ≤ fromF xs lo) : rightF xs lo hi v = (fromF xs lo, hi) := by unfold rightF; rw [List.getElem?_eq_none h]
theorem right_no {xs : List Sp} {lo hi : Int} {v : List UInt8} {s : Sp} (hs : xs[fromF xs lo]? = some s) (h2 : s.1 ≠ hi + 1 ∨ s.2.2 ≠ v) : rightF xs lo hi v = (fromF xs lo, hi) := by
  unfold rightF; rw [hs]; simp only; rw [if_neg (fun h => h2.elim (fun k => k h.1) (fun k => k h.2))]
theorem right_yes {xs : List Sp} {lo hi : Int} {v : List UInt8} {s : Sp} (hs : xs[fromF xs lo]? = some s) (h1 : s.1 = hi + 1) (h2 : s.2.2 = v) : rightF xs lo hi v = (fromF xs lo + 1, s.2.1) := by
  unfold rightF; rw [hs]; simp only; rw [if_pos ⟨h1, h2⟩]
theorem layM_mk {xs : List Sp} {lo hi p q : Int} {v : List UInt8} {a b : Nat} (hl : leftF xs lo v = (a, p)) (hr : rightF xs lo hi v = (b, q)) : xs.take a ++ [(p, q, v)] ++ xs.drop b = layM xs lo hi v := by unfold layM; rw [hl, hr]
def layOk (xs : List Sp) (lo hi : Int) (v : List UInt8) : Bool :=
  decide (((leftF xs lo v).1 = (rightF xs lo hi v).1 ∧ (leftF xs lo v).1 = xs.length) ∨ ((leftF xs lo v).1 < (rightF xs lo hi v).1 ∧ (rightF xs lo hi v).1 = xs.length))
theorem layOk_pre {xs : List Sp} {lo hi p q : Int} {v : List UInt8} {a b n : Nat} (h : layOk xs lo hi v = true) (hl : leftF xs lo v = (a, p)) (hr : rightF xs lo hi v = (b, q)) : (a = b ∧ (n = 0 ∨ a = xs.length)) ∨ (a < b ∧ b = xs.length) := by
  have := of_decide_eq_true h
  rw [hl, hr] at this
  exact this.elim (fun h => .inl ⟨h.1, .inr h.2⟩) .inr
def riseB : List Sp → Bool
  | [] => true
  | s :: l => decide (0 ≤ s.1) && decide (s.1 ≤ s.2.1) && decide (s.2.1 ≤ 1114111) && l.all (fun t => decide (s.2.1 < t.1)) && riseB l
theorem rise_of : ∀ (xs : List Sp), riseB xs = true → Rise xs
  | [], _ => ⟨fun s h => by simp at h, fun a b s t _ h => by simp at h⟩
  | s :: l, h => by
    simp only [riseB, Bool.and_eq_true, decide_eq_true_eq, List.all_eq_true] at h
    obtain ⟨⟨⟨⟨h1, h2⟩, h3⟩, h4⟩, h5⟩ := h
    have ih := rise_of l h5
    refine ⟨fun x hx => ?_, fun a b x y hab hx hy => ?_⟩
    · rcases List.mem_cons.1 hx with rfl | hx
      · exact ⟨h1, h2, h3⟩
      · exact ih.1 x hx
    · obtain ⟨b, rfl⟩ : ∃ k, b = k + 1 := ⟨b - 1, by omega⟩
      rw [List.getElem?_cons_succ] at hy
      cases a with
      | zero =>
        obtain rfl : s = x := by simpa using hx
        exact h4 y (List.mem_of_getElem? hy)
      | succ a =>
        rw [List.getElem?_cons_succ] at hx
        exact ih.2 a b x y (by omega) hx hy
abbrev metB (xs : List Sp) (lo hi : Int) : Bool := (meetsM xs lo hi).2.2.2
theorem met_free {xs : List Sp} {lo hi : Int} (hm : mayF lo hi = true) (h : metB xs lo hi = false) : freeAt xs lo hi = true := by
  unfold freeAt
  cases hs : xs[fromF xs lo]? with
  | none => rfl
  | some s =>
    simp only [decide_eq_true_eq]
    rcases Int.lt_or_le hi s.1 with h1 | h1
    · exact h1
    · have h' : (meetsM xs lo hi).2.2.2 = false := h
      rw [meetsM_yes hm hs h1] at h'; cases h'
/-- Put's answer and what it leaves. -/
def putE (xs : List Sp) (lo hi : Int) : Int := if mayF lo hi = false then 41 else if metB xs lo hi = true then 42 else 0
def putM (xs : List Sp) (lo hi : Int) (v : List UInt8) : List Sp := if mayF lo hi = false then xs else if metB xs lo hi = true then xs else layM xs lo hi v
def layE (lo hi : Int) : Int := if mayF lo hi = false then 41 else 0
def layF (xs : List Sp) (lo hi : Int) (v : List UInt8) : List Sp := if mayF lo hi = false then xs else layM xs lo hi v
theorem put_bad {xs : List Sp} {lo hi : Int} {v : List UInt8} (h : mayF lo hi = false) : 41 = putE xs lo hi ∧ xs = putM xs lo hi v := by simp [putE, putM, h]
theorem put_met {xs : List Sp} {lo hi : Int} {v : List UInt8} (h : mayF lo hi = true) (h2 : (meetsM xs lo hi).2.2.2 = true) : 42 = putE xs lo hi ∧ xs = putM xs lo hi v := by
  have h3 : metB xs lo hi = true := h2
  simp [putE, putM, h, h3]
theorem put_ok {xs : List Sp} {lo hi : Int} {v : List UInt8} (h : mayF lo hi = true) (h2 : (meetsM xs lo hi).2.2.2 = false) : layE lo hi = putE xs lo hi ∧ layF xs lo hi v = putM xs lo hi v := by
  have h3 : metB xs lo hi = false := h2
  simp [putE, putM, layE, layF, h, h3]
end Go.FK
namespace Go.FK
theorem take_pre {xs : List Sp} {i : Nat} {x : Sp} (h : xs[i]? = some x) : xs.take i ++ [(x.1, x.2.1, x.2.2)] <+: xs := by
  have : xs.take i ++ [x] = xs.take (i + 1) := by rw [List.take_add_one, h]; rfl
  rw [show ((x.1, x.2.1, x.2.2) : Sp) = x from rfl, this]; exact List.take_prefix _ _
theorem take_snoc {xs : List Sp} {i : Nat} {x : Sp} (h : xs[i]? = some x) : xs.take i ++ [(x.1, x.2.1, x.2.2)] = xs.take (i + 1) := by
  rw [List.take_add_one, h]; rfl
end Go.FK
