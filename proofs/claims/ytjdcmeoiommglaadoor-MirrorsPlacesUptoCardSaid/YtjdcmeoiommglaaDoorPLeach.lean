/- Plain laws of chapter 3: what is told of a text, by the pieces of the reference. -/
import Derived.Test.YtjdcmeoiommglaaDoorPLplc
set_option linter.unusedVariables false
namespace Go.FK
open Go Go.RowKit
def encTold (x : Int × List UInt8) : List Value := [.int .i64 x.1, S x.2]
def allF (s : List UInt8) (few : Int) : List (Int × List UInt8) := if 1 ≤ few ∧ few < ((toldF s).length : Int) then (toldF s).take few.toNat else toldF s
theorem all_stop {s : List UInt8} {few : Int} {pre : List (Int × List UInt8)} (h : pre <+: toldF s) (hf : (pre.length : Int) = few) (hp : 0 < pre.length) : pre = allF s few := by
  have hl := h.length_le
  have e := List.prefix_iff_eq_take.1 h
  unfold allF
  split
  · rw [← hf, Int.toNat_natCast]; exact e
  · rw [List.take_of_length_le (by omega)] at e; exact e
theorem all_done {s : List UInt8} {few : Int} (h : few < 1 ∨ ((toldF s).length : Int) < few) : toldF s = allF s few := by unfold allF; rw [if_neg (by omega)]
def toldR (s : List UInt8) : Nat → List (Nat × Nat × Nat) → List (Int × List UInt8)
  | _, [] => []
  | k, p :: l => (((k + 1 : Nat) : Int), (s.take p.2.1).drop p.1) :: toldR s (k + 1) l
theorem toldL_app (s : List UInt8) : ∀ (l m : List (Nat × Nat × Nat)) (k : Nat), (∀ p ∈ l, keepP p = true) → toldL s k ((l ++ m).map toI) = toldR s k l ++ toldL s (k + l.length) (m.map toI)
  | [], m, k, _ => by simp [toldR]
  | p :: l, m, k, h => by
    have hp := h p List.mem_cons_self
    simp only [keepP, decide_eq_true_eq] at hp
    rw [List.cons_append, List.map_cons, toldL, if_neg (by simp only [toI]; omega), toldL_app s l m (k + 1) (fun q hq => h q (List.mem_cons_of_mem _ hq)), toldR]
    have e : k + 1 + l.length = k + (p :: l).length := by rw [List.length_cons]; omega
    rw [e]
    simp [toI]
theorem told_ref (s : List UInt8) : toldF s = toldR s 0 (pcsR s) := by
  obtain ⟨init, b, e, k1, k2, k3, k4⟩ := ends_shape s
  have hf : init.filter keepP = init := filter_all fun x hx => (k1 x hx).1
  have key : pcsR s = init ++ if keepP (b, s.length, s.length) = true then [(b, s.length, s.length)] else [] := by rw [pcsR_ends, e, List.filter_append, hf, List.filter_cons, List.filter_nil]
  unfold toldF
  rw [pcsI_ends, e, toldL_app s init _ 0 (fun p hp => (k1 p hp).1), key]
  by_cases hk : keepP (b, s.length, s.length) = true
  · rw [if_pos hk]
    have h1 := toldL_app s [(b, s.length, s.length)] [] (0 + init.length) (fun p hp => by obtain rfl := List.mem_singleton.1 hp; exact hk)
    have h2 := toldL_app s (init ++ [(b, s.length, s.length)]) [] 0 (fun p hp => by
      rcases List.mem_append.1 hp with hp | hp
      · exact (k1 p hp).1
      · obtain rfl := List.mem_singleton.1 hp; exact hk)
    have h3 := toldL_app s init [(b, s.length, s.length)] 0 (fun p hp => (k1 p hp).1)
    rw [List.append_nil] at h2
    rw [← h3, h2]; simp [toldL]
  · rw [if_neg hk, List.append_nil]
    simp only [keepP, decide_eq_true_eq] at hk
    have : b = s.length := by omega
    subst this
    simp [toI, toldL]
theorem toldR_take (s : List UInt8) : ∀ (l : List (Nat × Nat × Nat)) (k n : Nat), (toldR s k l).take n = toldR s k (l.take n)
  | [], k, n => by simp [toldR]
  | p :: l, k, 0 => by simp [toldR]
  | p :: l, k, n + 1 => by rw [toldR, List.take_succ_cons, toldR_take s l (k + 1) n, List.take_succ_cons, toldR]
theorem toldR_len (s : List UInt8) : ∀ (l : List (Nat × Nat × Nat)) (k : Nat), (toldR s k l).length = l.length
  | [], k => rfl
  | p :: l, k => by rw [toldR, List.length_cons, toldR_len s l (k + 1), List.length_cons]
theorem toldR_at (s : List UInt8) : ∀ (l : List (Nat × Nat × Nat)) (k i : Nat) (p : Nat × Nat × Nat), l[i]? = some p → (toldR s k l)[i]? = some (((k + i + 1 : Nat) : Int), (s.take p.2.1).drop p.1)
  | [], k, i, p, h => by simp at h
  | q :: l, k, 0, p, h => by simp at h; subst h; rfl
  | q :: l, k, i + 1, p, h => by
    rw [toldR, List.getElem?_cons_succ, toldR_at s l (k + 1) i p (by simpa using h)]
    have e : k + 1 + i + 1 = k + (i + 1) + 1 := by omega
    rw [e]
theorem told_lenR (s : List UInt8) : (toldF s).length = (pcsR s).length := by rw [told_ref, toldR_len]
theorem all_some {s : List UInt8} {few : Int} (h1 : 1 ≤ few) (h2 : few < ((pcsR s).length : Int)) : allF s few = toldR s 0 ((pcsR s).take few.toNat) := by
  unfold allF; rw [told_lenR, if_pos ⟨h1, h2⟩, told_ref, toldR_take]
theorem all_none {s : List UInt8} {few : Int} (h : few < 1 ∨ ((pcsR s).length : Int) ≤ few) : allF s few = toldR s 0 ((pcsR s).take ((pcsR s).length : Int).toNat) := by
  unfold allF; rw [told_lenR, if_neg (by omega), Int.toNat_natCast, List.take_length, told_ref]
theorem told_all (s : List UInt8) : toldF s = toldR s 0 ((pcsR s).take ((pcsR s).length : Int).toNat) := by rw [Int.toNat_natCast, List.take_length, told_ref]
theorem allF_len (s : List UInt8) (few : Int) : (allF s few).length ≤ s.length + 1 := by
  have := told_len s
  unfold allF; split
  · rw [List.length_take]; omega
  · exact this
/-! ### held against the pieces, one by one -/
def okPc (s : List UInt8) (p : List (Nat × Nat × Nat)) : Prop := ∀ x ∈ p, x.1 ≤ x.2.1 ∧ x.2.1 ≤ s.length
theorem okPc_R (s : List UInt8) : okPc s (pcsR s) := fun x hx => by
  obtain ⟨i, hi⟩ := List.mem_iff_getElem?.1 hx
  have := pcsR_ok hi
  omega
theorem st_step {s : List UInt8} {l : List (Int × List UInt8)} {p : List (Nat × Nat × Nat)} {n : Int} {i : Nat} {x : Int × List UInt8} {q : Nat × Nat × Nat} (hi : l.take i = (toldR s 0 (p.take n.toNat)).take i) (hx : l[i]? = some x) (hq : p[i]? = some q) (hn : (i : Int) < n) (h1 : x.1 = ((i + 1 : Nat) : Int)) (h2 : x.2 = (s.take q.2.1).drop q.1) :
    l.take (i + 1) = (toldR s 0 (p.take n.toNat)).take (i + 1) := by
  refine take_same hi hx (toldR_at s _ 0 i q (by rw [List.getElem?_take, if_pos (by omega)]; exact hq)) ?_
  rw [← h2, Nat.zero_add, ← h1]
theorem st_end {s : List UInt8} {l : List (Int × List UInt8)} {p : List (Nat × Nat × Nat)} {n : Int} {i : Nat} (hi : l.take i = (toldR s 0 (p.take n.toNat)).take i) (hl : (l.length : Int) = n) (hn : n ≤ (i : Int)) (hp : n ≤ (p.length : Int)) : l = toldR s 0 (p.take n.toNat) :=
  take_all hi (by rw [toldR_len, List.length_take]; omega) (by omega)
theorem st_len {s : List UInt8} {l : List (Int × List UInt8)} {p : List (Nat × Nat × Nat)} {n : Int} (hl : (l.length : Int) ≠ n) (h0 : 0 ≤ n) (hp : n ≤ (p.length : Int)) : ¬ l = toldR s 0 (p.take n.toNat) := by
  intro e; rw [e, toldR_len, List.length_take] at hl; omega
theorem st_no {s : List UInt8} {l : List (Int × List UInt8)} {p : List (Nat × Nat × Nat)} {n : Int} {i : Nat} {x : Int × List UInt8} {q : Nat × Nat × Nat} (hx : l[i]? = some x) (hq : p[i]? = some q) (hn : (i : Int) < n) (h : x.1 ≠ ((i + 1 : Nat) : Int) ∨ x.2 ≠ (s.take q.2.1).drop q.1) : ¬ l = toldR s 0 (p.take n.toNat) := by
  intro e
  rw [e, toldR_at s _ 0 i q (by rw [List.getElem?_take, if_pos (by omega)]; exact hq)] at hx
  cases hx
  rcases h with h | h
  · exact h (by rw [Nat.zero_add])
  · exact h rfl
theorem st_no1 {s : List UInt8} {l : List (Int × List UInt8)} {p : List (Nat × Nat × Nat)} {n : Int} {i : Nat} {x : Int × List UInt8} (hx : l[i]? = some x) (hn : (i : Int) < n) (hnp : n ≤ (p.length : Nat)) (h : x.1 ≠ ((i + 1 : Nat) : Int)) : ¬ l = toldR s 0 (p.take n.toNat) := by
  obtain ⟨q, hq⟩ := get_some p i (by omega)
  exact st_no hx hq hn (.inl h)
end Go.FK
