/- Plain laws for lists of classes, written and read. -/
import Derived.Test.YtbknjmjflfkhkaaPEach
import Derived.Test.YtbknjmjflfkhkaaPGo
import Derived.Lib.Join
set_option linter.unusedVariables false
namespace Go.FK
open Go Go.RowKit
theorem join_snoc (xs : List (List UInt8)) (y sep : List UInt8) (h : xs ≠ []) : Lib.join (xs ++ [y]) sep = Lib.join xs sep ++ sep ++ y := by
  cases xs with
  | nil => exact absurd rfl h
  | cons x r =>
    rw [List.cons_append, Lib.join_cons, Lib.join_cons]
    simp [Lib.joinTail]
theorem join_le (xs : List (List UInt8)) (sep : List UInt8) (m : Nat) (h : ∀ x ∈ xs, x.length ≤ m) : (Lib.join xs sep).length ≤ (sep.length + m) * xs.length := by
  cases xs with
  | nil => simp [Lib.join_nil]
  | cons x r =>
    rw [Lib.join_length]
    have key : ∀ l : List (List UInt8), (∀ x ∈ l, x.length ≤ m) → Lib.lens l ≤ m * l.length := by
      intro l
      induction l with
      | nil => intro _; simp [Lib.lens]
      | cons y l ih =>
        intro h
        have h1 := h y (by simp)
        have h2 := ih (fun z hz => h z (by simp [hz]))
        simp only [Lib.lens, List.map_cons, List.sum_cons, List.length_cons, Nat.mul_succ] at h2 ⊢
        omega
    have h1 := key _ h
    simp only [List.length_cons] at h1 ⊢
    rw [Nat.add_mul]
    have : sep.length * r.length ≤ sep.length * (r.length + 1) := Nat.mul_le_mul_left _ (by omega)
    omega
def validC (c : Int) : Bool := decide (1 ≤ c) && decide (c ≤ 23)
def writeF (l : List Int) : List UInt8 × Int := if l.all validC = true then (Lib.join (l.map shortS) [32], 0) else ([], 2)
theorem writeF_bad {l : List Int} {i : Nat} {x : Int} (h : l[i]? = some x) (hx : validC x = false) : writeF l = ([], 2) := by
  unfold writeF
  rw [if_neg]
  intro ha
  rw [List.all_eq_true] at ha
  have := ha x (List.mem_of_getElem? h)
  rw [hx] at this; cases this
theorem valid_told {c : Int} (h : toldE c ≠ 0) : validC c = false ∧ toldE c = 2 := by
  unfold toldE at h ⊢
  split at h
  · omega
  · rename_i hc
    refine ⟨?_, by rw [if_neg hc]⟩
    simp only [validC, Bool.and_eq_false_iff, decide_eq_false_iff_not]; omega
theorem valid_ok {c : Int} (h : toldE c = 0) : validC c = true := by
  unfold toldE at h
  split at h
  · rename_i hc; simp only [validC, Bool.and_eq_true, decide_eq_true_eq]; exact hc
  · omega
theorem valid_nil {c : Int} (h : shortS c = []) : validC c = false := (valid_told (by rw [toldE_nil h]; decide)).1
theorem valid_some {c : Int} (h : shortS c ≠ []) : validC c = true := valid_ok (toldE_ok h)
theorem all_take {l : List Int} {i : Nat} {x : Int} (h : (l.take i).all validC = true) (hx : l[i]? = some x) (hv : validC x = true) : (l.take (i + 1)).all validC = true := by
  rw [take_succ_some hx, List.all_append, h]; simp [hv]
theorem map_take {l : List Int} {i : Nat} {x : Int} (hx : l[i]? = some x) : (l.take i).map shortS ++ [shortS x] = (l.take (i + 1)).map shortS := by
  rw [take_succ_some hx, List.map_append]; rfl
theorem writeF_all {l : List Int} {i : Nat} (h : (l.take i).all validC = true) (hi : l.length ≤ i) : writeF l = (Lib.join (l.map shortS) [32], 0) := by
  rw [List.take_of_length_le hi] at h
  unfold writeF; rw [if_pos h]
theorem names_len {l : List Int} {acc : List (List UInt8)} {i : Nat} (h : acc = (l.take i).map shortS) : (Lib.join acc [32]).length ≤ 31 * acc.length := by
  refine join_le acc [32] 30 ?_
  subst h
  intro x hx
  obtain ⟨y, _, rfl⟩ := List.mem_map.1 hx
  exact shortS_len y
theorem join_take {l : List Int} {i : Nat} {x : Int} (h : 0 < i) (hx : l[i]? = some x) : Lib.join ((l.take i).map shortS) [32] ++ [32] ++ shortS x = Lib.join ((l.take (i + 1)).map shortS) [32] := by
  rw [← map_take hx, join_snoc]
  intro e
  have h1 := congrArg List.length e
  have h2 := (List.getElem?_eq_some_iff.1 hx).1
  rw [List.length_map, List.length_take, List.length_nil] at h1
  omega
theorem join_take0 {l : List Int} {i : Nat} {x : Int} (h : i = 0) (hx : l[i]? = some x) : Lib.join ((l.take i).map shortS) [32] ++ shortS x = Lib.join ((l.take (i + 1)).map shortS) [32] := by
  subst h
  rw [← map_take hx]
  simp [Lib.join_nil, Lib.join_one]
theorem words_mem {s : List UInt8} {i : Nat} {x : Int × List UInt8} (h : (wordsOf s)[i]? = some x) : x.2.length ≤ s.length := wordsN_mem s _ _ _ x (List.mem_of_getElem? h)
theorem classes_stop {s : List UInt8} {i : Nat} {x : Int × List UInt8} {acc : List Int} (h : (wordsOf s)[i]? = some x) (hp : ((wordsOf s).take i).foldl cstep ([], 0, 0) = (acc, 0, 0)) (hc : (classF x.2).1 = 0) : classesF s = ([], x.1, 50) := by
  have h2 : (classF x.2).2 = 50 := by have := classF_cases x.2; omega
  unfold classesF
  rw [← List.take_append_drop i (wordsOf s), List.foldl_append, hp, drop_some h, List.foldl_cons]
  have : cstep (acc, 0, 0) x = ([], x.1, 50) := by
    unfold cstep; rw [if_neg (by simp), if_pos (by rw [h2]; decide), h2]
  rw [this, cstep_err (by simp)]
theorem classes_more {s : List UInt8} {i : Nat} {x : Int × List UInt8} {acc : List Int} (h : (wordsOf s)[i]? = some x) (hp : ((wordsOf s).take i).foldl cstep ([], 0, 0) = (acc, 0, 0)) (hc : (classF x.2).1 ≠ 0) : ((wordsOf s).take (i + 1)).foldl cstep ([], 0, 0) = (acc ++ [(classF x.2).1], 0, 0) := by
  have h2 : (classF x.2).2 = 0 := by have := classF_cases x.2; omega
  rw [take_succ_some h, List.foldl_append, hp]
  simp [cstep, h2]
theorem classes_all {s : List UInt8} {i : Nat} {acc : List Int} (hi : (wordsOf s).length ≤ i) (hp : ((wordsOf s).take i).foldl cstep ([], 0, 0) = (acc, 0, 0)) : classesF s = (acc, 0, 0) := by
  rw [List.take_of_length_le hi] at hp; exact hp
theorem take_eq_len {α : Type} {a b : List α} {i : Nat} (h : a.take i = b.take i) (ha : a.length ≤ i) (hb : a.length = b.length) : a = b := by
  rwa [List.take_of_length_le ha, List.take_of_length_le (by omega)] at h
theorem take_eq_succ {α : Type} {a b : List α} {i : Nat} {x y : α} (h : a.take i = b.take i) (hx : a[i]? = some x) (hy : b[i]? = some y) (e : x = y) : a.take (i + 1) = b.take (i + 1) := by
  rw [take_succ_some hx, take_succ_some hy, h, e]
theorem ne_at {α : Type} {a b : List α} {i : Nat} {x y : α} (hx : a[i]? = some x) (hy : b[i]? = some y) (e : x ≠ y) : a ≠ b := by
  rintro rfl; rw [hx] at hy; exact e (Option.some.inj hy)
end Go.FK
namespace Go.FK
open Go Go.RowKit
theorem fold_len : ∀ (l : List (Int × List UInt8)) (st : List Int × Int × Int), (l.foldl cstep st).1.length ≤ st.1.length + l.length := by
  intro l
  induction l with
  | nil => intro st; simp
  | cons x l ih =>
    intro st
    rw [List.foldl_cons]
    have key : (cstep st x).1.length ≤ st.1.length + 1 := by
      unfold cstep
      split
      · simp
      · split <;> simp
    have := ih (cstep st x)
    simp only [List.length_cons] at *
    omega
theorem classes_len (s : List UInt8) : (classesF s).1.length ≤ s.length + 1 := by
  have := fold_len (wordsOf s) ([], 0, 0)
  have := words_le s
  unfold classesF
  simp only [List.length_nil] at *
  omega
end Go.FK
