/- Plain laws for the words of a text, as the reference gathers them. -/
import Derived.Test.YtbknjmjflfkhkaaPNames
set_option linter.unusedVariables false
namespace Go.FK
open Go Go.RowKit
theorem spotsN_fit (s : List UInt8) : ∀ (n p : Nat), ∀ x ∈ spotsN s n p, x.1 + x.2.1 ≤ s.length ∧ x.2.1 ≤ 4
  | 0, _ => by simp [spotsN]
  | n + 1, p => by
    unfold spotsN
    split
    · rename_i h
      intro x hx
      rcases List.mem_cons.1 hx with rfl | hx
      · have := dec_fits s p h
        have := (at_dec s p h).1
        have := atF_w s p
        simp only; omega
      · exact spotsN_fit s n _ x hx
    · simp
theorem spots_fit {s : List UInt8} {i : Nat} {x : Nat × Nat × Int × Int} (h : (spotsFrom s 0)[i]? = some x) : x.1 + x.2.1 ≤ s.length ∧ x.2.1 ≤ 4 := spotsN_fit s _ _ x (List.mem_of_getElem? h)
def pieceOf (s : List UInt8) (x : Nat × Nat × Int × Int) : List UInt8 := List.drop x.1 (List.take (x.1 + x.2.1) s)
theorem piece_len (s : List UInt8) (x : Nat × Nat × Int × Int) : (pieceOf s x).length ≤ x.2.1 := by
  simp [pieceOf, List.length_take]; omega
def wstep (s : List UInt8) (st : List (Int × List UInt8) × Bool) (x : Nat × Nat × Int × Int) : List (Int × List UInt8) × Bool :=
  if blankB x.2.2.1 = true then (st.1, false)
  else if st.2 = true then
    (match st.1[st.1.length - 1]? with
      | some e => st.1.set (st.1.length - 1) (e.1, e.2 ++ pieceOf s x)
      | none => st.1, true)
  else (st.1 ++ [((x.1 : Int), pieceOf s x)], true)
theorem wstep_blank {s acc op} {x : Nat × Nat × Int × Int} (h : blankB x.2.2.1 = true) : wstep s (acc, op) x = (acc, false) := by
  unfold wstep; rw [if_pos h]
theorem wstep_more {s acc op} {x : Nat × Nat × Int × Int} {e} (h : blankB x.2.2.1 = false) (ho : op = true) (he : acc[acc.length - 1]? = some e) : wstep s (acc, op) x = (acc.set (acc.length - 1) (e.1, e.2 ++ pieceOf s x), true) := by
  subst ho
  simp only [wstep, h, he]; rfl
theorem wstep_new {s acc op} {x : Nat × Nat × Int × Int} (h : blankB x.2.2.1 = false) (ho : op = false) : wstep s (acc, op) x = (acc ++ [((x.1 : Int), pieceOf s x)], true) := by
  subst ho
  simp only [wstep, h]; rfl
theorem drop_take_app (s : List UInt8) {a b c : Nat} (h1 : a ≤ b) (h2 : b ≤ c) (h3 : c ≤ s.length) : (s.take b).drop a ++ (s.take c).drop b = (s.take c).drop a := by
  apply List.ext_getElem?
  intro i
  have l1 : ((s.take b).drop a).length = b - a := by simp; omega
  rcases Nat.lt_or_ge i (b - a) with h | h
  · rw [List.getElem?_append_left (by omega)]
    simp only [List.getElem?_drop, List.getElem?_take]
    rw [if_pos (by omega), if_pos (by omega)]
  · rw [List.getElem?_append_right (by omega), l1]
    simp only [List.getElem?_drop, List.getElem?_take]
    rw [show b + (i - (b - a)) = a + i by omega]
theorem set_last {α : Type} (pre : List α) (x y : α) : (pre ++ [x]).set ((pre ++ [x]).length - 1) y = pre ++ [y] := by
  rw [List.length_append]; simp
theorem fold_words (s : List UInt8) : ∀ (n p : Nat), s.length - p ≤ n →
    (∀ acc, ((spotsFrom s p).foldl (wstep s) (acc, false)).1 = acc ++ wordsFrom s p (-1)) ∧
    (∀ pre (fr : Nat), fr ≤ p → p ≤ s.length → ((spotsFrom s p).foldl (wstep s) (pre ++ [((fr : Int), (s.take p).drop fr)], true)).1 = pre ++ wordsFrom s p fr) := by
  intro n
  induction n with
  | zero =>
    intro p hp
    rw [spotsFrom_end (by omega)]
    refine ⟨fun acc => ?_, fun pre fr h1 h2 => ?_⟩
    · rw [wordsFrom_end (by omega)]; simp
    · rw [wordsFrom_end (by omega), if_pos (by omega), List.foldl_nil]
      simp only [Int.toNat_natCast]
      rw [List.take_of_length_le (by omega)]
  | succ n ih =>
    intro p hp
    rcases Nat.lt_or_ge p s.length with h | h
    · obtain ⟨e1, e2⟩ := at_dec s p h
      have hf := dec_fits s p h
      have h1 := dec_pos s p
      obtain ⟨ih1, ih2⟩ := ih (p + (dec s p).2) (by omega)
      rw [spotsFrom_step h]
      generalize atF s p = A at e1 e2
      obtain ⟨wd, c, er⟩ := A
      simp only at e1 e2
      subst e1
      refine ⟨fun acc => ?_, fun pre fr h1 h2 => ?_⟩
      · rw [List.foldl_cons, wordsFrom_step h e2]
        cases hb : blankB c with
        | true => rw [wstep_blank (by exact hb), ih1]; simp
        | false =>
          rw [wstep_new (by exact hb) rfl]
          have := ih2 acc p (by omega) (by omega)
          simpa [pieceOf] using this
      · rw [List.foldl_cons, wordsFrom_step h e2]
        cases hb : blankB c with
        | true => rw [wstep_blank (by exact hb), ih1, if_pos rfl, if_pos (by omega)]; simp
        | false =>
          rw [wstep_more (e := ((fr : Int), (s.take p).drop fr)) (by exact hb) rfl (by simp), set_last]
          simp only [pieceOf]
          rw [drop_take_app s h1 (by omega) hf, ih2 pre fr (by omega) (by omega)]
          rw [if_neg (by simp), if_neg (by omega)]
    · rw [spotsFrom_end h]
      refine ⟨fun acc => ?_, fun pre fr h1 h2 => ?_⟩
      · rw [wordsFrom_end (by omega)]; simp
      · rw [wordsFrom_end (by omega), if_pos (by omega), List.foldl_nil]
        simp only [Int.toNat_natCast]
        rw [List.take_of_length_le (by omega)]
theorem rwords_eq (s : List UInt8) : ((spotsFrom s 0).foldl (wstep s) ([], false)).1 = wordsOf s := by
  have := (fold_words s _ 0 (Nat.le_refl _)).1 []
  simpa [wordsOf] using this
def encWord (x : Int × List UInt8) : List Value := [.int .i64 x.1, S x.2]
theorem words_le (s : List UInt8) : (wordsOf s).length ≤ s.length + 1 := by
  have := wordsN_length s (s.length - 0) 0 (-1); simpa [wordsOf, wordsFrom] using this
theorem set_le {acc : List (Int × List UInt8)} {i j : Nat} {y : Int × List UInt8} (h : ∀ e ∈ acc, e.2.length ≤ 4 * i) (hy : y.2.length ≤ 4 * (i + 1)) : ∀ e ∈ acc.set j y, e.2.length ≤ 4 * (i + 1) := by
  intro e he
  rcases List.mem_or_eq_of_mem_set he with he | rfl
  · have := h e he; omega
  · exact hy
theorem app_le {acc : List (Int × List UInt8)} {i : Nat} {y : Int × List UInt8} (h : ∀ e ∈ acc, e.2.length ≤ 4 * i) (hy : y.2.length ≤ 4 * (i + 1)) : ∀ e ∈ acc ++ [y], e.2.length ≤ 4 * (i + 1) := by
  intro e he
  rcases List.mem_append.1 he with he | he
  · have := h e he; omega
  · obtain rfl : e = y := by simpa using he
    exact hy
theorem old_le {acc : List (Int × List UInt8)} {i : Nat} (h : ∀ e ∈ acc, e.2.length ≤ 4 * i) : ∀ e ∈ acc, e.2.length ≤ 4 * (i + 1) := fun e he => by have := h e he; omega
end Go.FK
