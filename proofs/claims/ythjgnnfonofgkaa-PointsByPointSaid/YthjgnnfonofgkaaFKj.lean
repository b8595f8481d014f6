/- FKj: the library's contract for joining texts, over my rows. My own text, over the kit's shelf (laid by its command into the module Shelf). -/
import Derived.Test.YthjgnnfonofgkaaFKh
import Derived.Test.YthjgnnfonofgkaaShelf
import Derived.Lib.Join
namespace Go.FK
open Go Go.RowKit
theorem join_contract {P : Program} {f : FuncId} (h0 : ∀ (a : Option Addr) (c : Nat) (sep : ByteArray) (w : World), Calls P f #[.slice a 0 c, .string sep] w fun e w' => e = .returned (.string ⟨#[]⟩) ∧ w' = w)
    (h1 : ∀ (bk o c : Nat) (xs : List ByteArray) (sep : ByteArray) (w : World), (∀ (j : Nat) x, xs[j]? = some x → w.cell? ⟨bk, o + j, none⟩ = some (.string x)) → bk < w.heap.size → xs.length ≤ 140737488355328 → xs.length ≤ c →
      (Lib.join (xs.map (·.data.toList)) sep.data.toList).length ≤ 140737488355328 →
      Calls P f #[.slice (some ⟨bk, o, none⟩) xs.length c, .string sep] w fun e w' => e = .returned (.string ⟨(Lib.join (xs.map (·.data.toList)) sep.data.toList).toArray⟩) ∧ Below w.heap.size w w')
    {B E k : Nat} (v : Value) (xs : List (List UInt8)) (sep : List UInt8) (w : World) (hrow : Row w B E k encStr v xs) (hn : xs.length ≤ 140737488355328) (hl : (Lib.join xs sep).length ≤ 140737488355328) :
    Calls P f #[v, S sep] w (Ret fun v' w' => v' = S (Lib.join xs sep) ∧ Below w.heap.size w w') := by
  obtain ⟨hlen, hr⟩ := hrow
  rcases hr with ⟨rfl, h3⟩ | ⟨g, cap, cur, rfl, hg, hh, hnc, hcm, hcs, htake⟩
  · obtain rfl : xs = [] := List.eq_nil_of_length_eq_zero h3
    refine (h0 none 0 ⟨sep.toArray⟩ w).mono ?_
    rintro e w' ⟨rfl, rfl⟩
    exact ⟨_, rfl, rfl, Below.refl _ _⟩
  · have hrow : Row w B E k encStr (.slice (some ⟨g, 0, none⟩) xs.length cap) xs := ⟨hlen, .inr ⟨g, cap, cur, rfl, hg, hh, hnc, hcm, hcs, htake⟩⟩
    have hm : (xs.map (fun l => (⟨l.toArray⟩ : ByteArray))).map (·.data.toList) = xs := by rw [List.map_map]; exact List.map_id xs
    have hl1 : (xs.map (fun l => (⟨l.toArray⟩ : ByteArray))).length = xs.length := List.length_map ..
    have h := h1 g 0 cap (xs.map (fun l => (⟨l.toArray⟩ : ByteArray))) ⟨sep.toArray⟩ w ?_ (obj_lt hh) (by rw [hl1]; exact hn) (by rw [hl1]; exact hnc) (by rw [hm]; exact hl)
    · rw [hl1, hm] at h
      refine h.mono ?_
      rintro e w' ⟨rfl, hb⟩
      exact ⟨_, rfl, rfl, hb⟩
    · intro j x hx
      rw [List.getElem?_map] at hx
      cases hy : xs[j]? with
      | none => rw [hy] at hx; cases hx
      | some y =>
        rw [hy] at hx
        obtain rfl : (⟨y.toArray⟩ : ByteArray) = x := by simpa using hx
        have hlt : 0 < xs.length := by have := (List.getElem?_eq_some_iff.1 hy).1; omega
        obtain ⟨g', ⟨c', hv⟩, _, hc⟩ := row_lies hrow hlt
        injection hv with hv1
        injection hv1 with hv1
        injection hv1 with hv1
        subst hv1
        have hf := flat_at encStr 1 (fun _ => rfl) xs j 0 hy (by omega)
        have := hc j (S y) (by simpa [encStr] using hf)
        rw [Nat.zero_add]; exact this
end Go.FK
