/- Plain laws for chapter 3's statements. -/
import Derived.Test.YtjdcmeoiommglaaDoorPLref
set_option linter.unusedVariables false
namespace Go.FK
open Go Go.RowKit
/-! ### lists held against one another -/
theorem take_same {α : Type} {a b : List α} {i : Nat} {x y : α} (h : a.take i = b.take i) (hx : a[i]? = some x) (hy : b[i]? = some y) (e : x = y) : a.take (i + 1) = b.take (i + 1) := by
  obtain ⟨h1, rfl⟩ := List.getElem?_eq_some_iff.1 hx
  obtain ⟨h2, rfl⟩ := List.getElem?_eq_some_iff.1 hy
  rw [List.take_succ_eq_append_getElem h1, List.take_succ_eq_append_getElem h2, h, e]
theorem take_all {α : Type} {a b : List α} {i : Nat} (h : a.take i = b.take i) (hl : a.length = b.length) (hi : a.length ≤ i) : a = b := by
  rwa [List.take_of_length_le hi, List.take_of_length_le (by omega)] at h
theorem ne_len {α : Type} {a b : List α} (h : a.length ≠ b.length) : ¬ a = b := fun e => h (by rw [e])
theorem ne_at {α : Type} {a b : List α} {i : Nat} {x y : α} (hx : a[i]? = some x) (hy : b[i]? = some y) (e : x ≠ y) : ¬ a = b := by
  rintro rfl; rw [hx] at hy; exact e (Option.some.inj hy)
theorem splF_len (b : UInt8) : ∀ l : List UInt8, (splF b l).length ≤ l.length + 1
  | [] => by simp [splF]
  | c :: l => by
    have ih := splF_len b l
    rw [splF]
    split
    · simp; omega
    · split <;> simp_all <;> omega
theorem fields_len (s : List UInt8) : (fieldsF s).length ≤ s.length + 1 := by
  unfold fieldsF
  split
  · simp
  · rw [List.length_map]; exact splF_len 59 s
theorem fields_lenC (s : List UInt8) : (cutF s).1.length ≤ s.length + 1 := by
  have h1 := fields_len (Lib.cut s [35]).1
  have h2 := (cutl_len s [35]).1
  show (fieldsF (Lib.cut s [35]).1).length ≤ _
  omega
theorem sl_yes {n1 n2 k1 k2 : Int} {m1 m2 t1 t2 : List UInt8} {f1 f2 : List (List UInt8)} (h1 : n1 = n2) (h2 : k1 = k2) (h3 : m1 = m2) (h4 : f1 = f2) (h5 : t1 = t2) : ((n1, k1, m1, f1, t1) : LineD) = (n2, k2, m2, f2, t2) := by rw [h1, h2, h3, h4, h5]
theorem sl_no {n1 n2 k1 k2 : Int} {m1 m2 t1 t2 : List UInt8} {f1 f2 : List (List UInt8)} (h : n1 ≠ n2 ∨ k1 ≠ k2 ∨ m1 ≠ m2 ∨ t1 ≠ t2 ∨ f1 ≠ f2) : ¬ ((n1, k1, m1, f1, t1) : LineD) = (n2, k2, m2, f2, t2) := by
  intro e
  simp only [Prod.mk.injEq] at e
  obtain ⟨e1, e2, e3, e4, e5⟩ := e
  rcases h with h | h | h | h | h
  · exact h e1
  · exact h e2
  · exact h e3
  · exact h e5
  · exact h e4
theorem scan_flen (no : Int) (s : List UInt8) : (scanF no s).1.2.2.2.1.length ≤ s.length + 1 := by
  have h1 := fields_lenC s
  have h2 := fields_lenC ((noteF s).drop 9)
  have h3 := noteF_len s
  have h4 := fields_len (ordF s).2.1
  have h5 := (cutl_len ((headF s).drop 1) [58]).2
  have h6 := headF_len s
  rw [List.length_drop] at h2 h5
  have h5' : (ordF s).2.1.length ≤ (headF s).length - 1 := h5
  unfold scanF
  repeat' split
  all_goals simp only [zeroL, List.length_nil]
  all_goals omega
end Go.FK
