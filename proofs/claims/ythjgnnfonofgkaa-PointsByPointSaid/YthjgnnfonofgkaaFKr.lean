/- FKr: the library's reversal in place, over my rows. My own text, over the kit's shelf. -/
import Derived.Test.YthjgnnfonofgkaaFKp
import Derived.Shelf.SlicesE.Reverse
import Derived.Lib.IndexMore
namespace Go.FK
open Go Go.RowKit
theorem reverse_contract {α : Type} {P : Program} {f : FuncId} (e1 : α → Value) (he1 : ∀ x, (e1 x).oneCell' = true) [Inhabited α]
    (h0 : ∀ (a : Option Addr) (cap : Nat) (w : World), Calls P f #[.slice a 0 cap] w fun e w' => e = .returned (.tuple #[]) ∧ w' = w)
    (h1 : ∀ (blk off cap : Nat) (zs : List α) (w : World), Go.Sort.Holds e1 w blk off zs.toArray → zs.length ≤ 9223372036854775807 →
      Calls P f #[.slice (some ⟨blk, off, none⟩) zs.length cap] w fun e w' => e = .returned (.tuple #[]) ∧ ∃ n, w' = Go.Sort.putRow e1 (Go.Sort.ahead w n) blk off zs.reverse.toArray)
    {B E : Nat} (v : Value) (xs : List α) (w : World) (hrow : Row w B E 1 (fun x => [e1 x]) v xs) :
    Calls P f #[v] w (Ret fun v' w' => v' = .tuple #[] ∧ Row w' B E 1 (fun x => [e1 x]) v xs.reverse ∧ w.grownBy w' v.ownBlock) := by
  have flat : ∀ l : List α, l.flatMap (fun x => [e1 x]) = l.map e1 := by
    intro l; induction l with
    | nil => rfl
    | cons x l ih => rw [List.flatMap_cons, List.map_cons, ih]; rfl
  obtain ⟨hlen, hr⟩ := id hrow
  rcases hr with ⟨rfl, h3⟩ | ⟨g, cap, cur, rfl, hg, hh, hnc, hcm, hcs, htake⟩
  · obtain rfl : xs = [] := List.eq_nil_of_length_eq_zero h3
    refine (h0 none 0 w).mono ?_
    rintro e w' ⟨rfl, rfl⟩
    exact ⟨_, rfl, rfl, Row.nil _ _ _ _ _, ⟨rfl, rfl, rfl, Nat.le_refl _, fun _ _ _ => rfl⟩⟩
  · rw [flat] at htake
    have hcell : ∀ j, j < xs.length → cur[j]? = some (e1 xs.toArray[j]!) := by
      intro j hj
      have h2 : (cur.toList.take (xs.length * 1))[j]? = (xs.map e1)[j]? := by rw [htake]
      rw [List.getElem?_take, if_pos (by omega)] at h2
      simp only [List.getElem?_map, List.getElem?_eq_getElem hj, Option.map_some, Array.getElem?_toList] at h2
      rw [h2]
      simp [hj]
    refine (h1 g 0 cap xs w ?_ (by unfold maxLen at hcm; omega)).mono ?_
    · intro j hj
      have hj' : j < xs.length := by simpa using hj
      refine ⟨?_, by simp [World.frozen?, hh]⟩
      rw [Nat.zero_add]
      simp only [World.cell?, hh]
      simpa using hcell j hj'
    · rintro e w' ⟨rfl, m, rfl⟩
      have hgl := obj_lt hh
      have hput : (Go.Sort.putRow e1 (Go.Sort.ahead w m) g 0 xs.reverse.toArray).heap[g]? = some (.cells (Go.Sort.putCells e1 0 xs.reverse.toArray cur) E (0, 0)) := by
        show (w.heap.modify g _)[g]? = _
        rw [Array.getElem?_modify, if_pos rfl, hh]
        rfl
      refine ⟨_, rfl, rfl, ⟨?_, .inr ⟨g, cap, _, ?_, hg, hput, ?_, hcm, ?_, ?_⟩⟩, ⟨rfl, rfl, rfl, ?_, ?_⟩⟩
      · rw [flat]; simp
      · rw [List.length_reverse]
      · rw [List.length_reverse]; exact hnc
      · simp only [Go.Sort.putCells, Array.size_mapIdx]; exact hcs
      · rw [flat]
        apply List.ext_getElem?
        intro j
        rw [List.length_reverse, List.getElem?_take]
        by_cases hj : j < xs.length
        · rw [if_pos (by omega), Array.getElem?_toList]
          have hc : j < cur.size := by omega
          simp only [Go.Sort.putCells, Array.getElem?_mapIdx, Array.getElem?_eq_getElem hc, Option.map_some]
          rw [if_pos (by simp; omega)]
          simp [hj]
        · rw [if_neg (by omega)]
          simp; omega
      · show w.heap.size ≤ (w.heap.modify g _).size
        simp
      · intro k hk hne
        show (w.heap.modify g _)[k]? = _
        rw [Array.getElem?_modify, if_neg]
        intro e
        exact hne (by rw [← e]; rfl)
theorem gcell_below {w w' : World} {p : Addr} {v : Value} (h : w.cell? p = some v) (hb : Below w.heap.size w w') : w'.cell? p = some v := (hb.cell (p := p) (World.block_lt_of_cell? w _ h)).trans h
theorem drewN_below (w : World) (n : Nat) : Below w.heap.size w (w.drewN n) := ⟨rfl, rfl, rfl, Nat.le_refl _, fun _ _ => rfl⟩
theorem cut_contract {P : Program} {f : FuncId} {p : Addr}
    (h1 : ∀ (s sep : ByteArray) (m : Int) (w : World), s.size < 4294967281 → w.cell? p = some (.int .i64 m) →
      Calls P f #[.string s, .string sep] w fun e w' => e = .returned (.tuple #[.string ⟨(Lib.cut s.data.toList sep.data.toList).1.toArray⟩, .string ⟨(Lib.cut s.data.toList sep.data.toList).2.1.toArray⟩, .bool (Lib.cut s.data.toList sep.data.toList).2.2]) ∧ ∃ n, w' = w.drewN n)
    (s sep : List UInt8) (w : World) {m : Int} (hml : w.cell? p = some (.int .i64 m)) (hs : s.length ≤ 1073741824) :
    Calls P f #[S s, S sep] w (Ret fun v w' => v = (.tuple #[S (Lib.cut s sep).1, S (Lib.cut s sep).2.1, .bool (Lib.cut s sep).2.2]) ∧ Below w.heap.size w w') := by
  refine (h1 ⟨s.toArray⟩ ⟨sep.toArray⟩ m w (by rw [size_mk]; omega) hml).mono ?_
  rintro e w' ⟨rfl, n, rfl⟩
  exact ⟨_, rfl, rfl, drewN_below w n⟩
end Go.FK
