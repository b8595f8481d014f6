/- FKy: slices of integers among a statement's arguments: opened as one list, read again behind a call that leaves old memory alone. My own text. -/
import Derived.Test.YthjgnnfonofgkaaFKz
import Derived.WideKeyArgs
import Derived.ChangeSlices
namespace Go.FK
open Go Go.RowKit Go.ChangeShapes Go.WideShapes
theorem flat_one (k : IntKind) : ∀ (l : List Int) (j : Nat), (l.flatMap (fun x => [Value.int k x]))[j]? = (l[j]?).map (Value.int k)
  | [], j => by simp
  | x :: l, 0 => by simp
  | x :: l, j + 1 => by simpa using flat_one k l j
theorem open_rdI {H : Type} {enc : TypeId × Value → H} {P : Program} {W : World} {t e base : Nat} {k : IntKind} {v : Value} {d : DataW H} {ps : List MemPlace} (ht : P.underlying t = some (.slice e)) (he : P.underlying e = some (.int k)) (hc : P.cellsOf e = 1)
    (hok : Value.okWide P W .any base t v) (h : DataW.Trod enc P W 0 (fun _ => true) true t v d ps) :
    ∃ xs spare : List Int, Rd W (fun x => [Value.int k x]) v xs ∧ (∀ x ∈ xs, (Lit.int k x).wf = true) ∧ (d = .nil ∧ xs = [] ∨ d = .slice (lits k xs) (lits k spare)) := by
  obtain ⟨a, len, cap, rfl⟩ := okWide_slice ht hok
  obtain ⟨fuel, hf⟩ := h
  rcases open_ints ht he hc hf with ⟨hcs, hx⟩ | ⟨a', len', cap', zs, hcs, _, hle, hmax, hall, hx, hcell, hwf⟩
  · simp [Value.cells] at hcs
    obtain ⟨rfl, rfl, rfl⟩ := hcs
    simp only [Prod.mk.injEq] at hx
    exact ⟨[], [], ⟨none, 0, rfl, .inl rfl⟩, by simp, .inl ⟨hx.1, rfl⟩⟩
  · simp [Value.cells] at hcs
    obtain ⟨rfl, rfl, rfl⟩ := hcs
    simp only [Prod.mk.injEq] at hx
    have hall2 : zs.length = cap := by simpa using hall
    have hl : (zs.take len).length = len := by rw [List.length_take]; omega
    refine ⟨zs.take len, zs.drop len, ⟨some a', cap, by rw [hl], ?_⟩, fun x hx => hwf x (List.mem_of_mem_take hx), .inr hx.1⟩
    rcases Nat.eq_zero_or_pos len with h0 | h0
    · left; omega
    · right
      obtain ⟨b, off, rfl, hcc⟩ := ints_at hcell (by omega)
      refine ⟨b, off, rfl, fun j u hu => ?_⟩
      rw [flat_one] at hu
      cases hy : (zs.take len)[j]? with
      | none => rw [hy] at hu; cases hu
      | some y =>
        rw [hy] at hu
        have hj : j < len := by have := (List.getElem?_eq_some_iff.1 hy).1; omega
        rw [List.getElem?_take, if_pos hj] at hy
        rw [hcc j (by omega), ← hu]
        simp [List.getD, hy]
end Go.FK
