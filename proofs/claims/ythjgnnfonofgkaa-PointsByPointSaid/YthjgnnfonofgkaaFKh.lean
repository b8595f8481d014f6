/- FKh: stores into a row's elements, conditions over a bool that is not known, over functional frames. My own text. -/
import Derived.Test.YthjgnnfonofgkaaFKg
namespace Go.FK
open Go Go.RowKit
theorem flat_set {α : Type} (f : α → List Value) (k : Nat) (hk : ∀ x, (f x).length = k) : ∀ (l : List α) (i : Nat) (x x' : α) (j : Nat) (u : Value), l[i]? = some x → j < k → f x' = (f x).set j u → (l.flatMap f).set (i * k + j) u = (l.set i x').flatMap f := by
  intro l
  induction l with
  | nil => intro i x x' j u h; simp at h
  | cons y l ih =>
    intro i x x' j u h hj he
    cases i with
    | zero =>
      simp at h; subst h
      rw [List.flatMap_cons, Nat.zero_mul, Nat.zero_add, List.set_append_left _ _ (by rw [hk]; exact hj), List.set_cons_zero, List.flatMap_cons, he]
    | succ i =>
      rw [List.flatMap_cons, List.set_append_right _ _ (by rw [hk, Nat.succ_mul]; omega), hk, List.set_cons_succ, List.flatMap_cons]
      rw [show (i + 1) * k + j - k = i * k + j by rw [Nat.succ_mul]; omega]
      rw [ih i x x' j u (by simpa using h) hj he]
theorem grown_of_wrote {w w' : World} {g : Nat} {o : Obj} {v : Value} (h : Wrote w w' g o) (hv : v.ownBlock = some g) : w.grownBy w' v.ownBlock :=
  ⟨h.os, h.tape, h.output, Nat.le_of_eq h.size.symm, fun k _ hne => h.other k (fun e => hne (by rw [hv, e]))⟩
section ops
variable {r : Option Nat} {P : Program} {n : Nat} {Q : Post} {s : Fm} {w : World} {ops : Array Oper} {rest : List Oper}
variable {d : Option Tmp} {ty : TypeId} {pos : String} {af : Array Edge}
/-- A store of one cell of an element of a row of the call's own. -/
theorem L_storeRow {α : Type} {t : TypeId} {X Y : Operand} {enc : α → List Value} {B E k : Nat} {v : Value} {xs : List α} (i j g off : Nat) (x x' : α) (u : Value) (hrow : Row w B E k enc v xs) (hk : ∀ x, (enc x).length = k) (hxi : xs[i]? = some x) (hl : Lies v g off xs.length)
    (hx : s.ev n X = .pointer (some ⟨g, off + i * k + j, none⟩)) (hy : s.ev n Y = u) (h1 : u.oneCell' = true) (hz : (sizeOf t).run P w = .ok 1 w) (hj : Nat.blt j k = true) (hen : enc x' = (enc x).set j u)
    (h : ∀ w', Row w' B E k enc v (xs.set i x') → w.grownBy w' v.ownBlock → L r P n ops Q rest (s.put d undef) w') : L r P n ops Q (⟨d, .store t X Y, ty, pos, af, none⟩ :: rest) s w := by
  have hj' : j < k := by simpa using hj
  obtain ⟨hlt, _⟩ := List.getElem?_eq_some_iff.1 hxi
  obtain ⟨hlen, hr⟩ := hrow
  rcases hr with ⟨h2, h3⟩ | ⟨g', cap, cur, rfl, hg, hh, hnc, hcm, hcs, htake⟩
  · omega
  · obtain ⟨c, hc⟩ := hl
    injection hc with hc1 hc2 hc3
    injection hc1 with hc1
    injection hc1 with hc1 hc4
    subst hc1; subst hc4
    rw [Nat.zero_add] at hx
    have hb : i * k + j < xs.length * k := by
      have : (i + 1) * k ≤ xs.length * k := Nat.mul_le_mul_right _ hlt
      rw [Nat.succ_mul] at this; omega
    have hb2 : xs.length * k ≤ cur.size := by rw [hcs]; exact Nat.mul_le_mul_right _ hnc
    refine L_store g' (i * k + j) u cur.toList (cur.toList.set (i * k + j) u) E hx hy h1 hz (by simpa using hh) (by rw [Array.length_toList]; omega) rfl ?_
    intro w' hW
    have hf := flat_set enc k hk xs i x x' j u hxi hj' hen
    have hrow' : Row w' B E k enc (.slice (some ⟨g', 0, none⟩) xs.length cap) (xs.set i x') := by
      refine ⟨?_, .inr ⟨g', cap, _, ?_, hg, hW.here, ?_, hcm, ?_, ?_⟩⟩
      · rw [← hf, List.length_set, List.length_set]; exact hlen
      · rw [List.length_set]
      · rw [List.length_set]; exact hnc
      · simpa using hcs
      · rw [List.length_set, ← hf, ← htake, List.take_set]
    exact h w' hrow' (grown_of_wrote hW rfl)
theorem W_ifT {c : Operand} {x y : Code} {b : Bool} (hb : b = true) (hc : s.ev n c = .bool b) (h : W r P n x Q s w) : W r P n (.cond c x y) Q s w := W_true (by rw [hc, hb]) h
theorem W_ifF {c : Operand} {x y : Code} {b : Bool} (hb : b = false) (hc : s.ev n c = .bool b) (h : W r P n y Q s w) : W r P n (.cond c x y) Q s w := W_false (by rw [hc, hb]) h
/-- A loop of a number of rounds that is known: unrolled. -/
def Rounds (r : Option Nat) (P : Program) (n : Nat) (c : Code) (Q : Post) : Nat → Fm → World → Prop
  | 0, _, _ => False
  | m + 1, s, w => W r P n c (thenQ (Rounds r P n c Q m) Q) s w
theorem W_rounds {c : Code} (m : Nat) (h : Rounds r P n c Q m s w) : W r P n (.loop c) Q s w := by
  refine W_loop (fun m s w => Rounds r P n c Q m s w) m h ?_
  intro m s w h
  cases m with
  | zero => exact h.elim
  | succ m =>
    refine W_mono h ?_
    intro e s' w' hq
    cases e with
    | normal => exact ⟨m, Nat.lt_succ_self m, hq⟩
    | _ => exact hq
theorem W_unroll {c : Code} (m : Nat) (h : W r P n c (thenQ (Rounds r P n c Q m) Q) s w) : W r P n (.loop c) Q s w := W_rounds (m + 1) h
theorem thenQ_round {c : Code} {m : Nat} (h : W r P n c (thenQ (Rounds r P n c Q m) Q) s w) : thenQ (Rounds r P n c Q (m + 1)) Q .normal s w := h
end ops
theorem pre_at {α : Type} {pre l : List α} {x : α} (h : pre ++ [x] <+: l) : l[pre.length]? = some x := by
  obtain ⟨t, rfl⟩ := h
  simp
theorem pre_lt {α : Type} {pre l : List α} {x : α} (h : pre ++ [x] <+: l) : pre.length < l.length := by
  have := h.length_le; simp at this; omega
end Go.FK
