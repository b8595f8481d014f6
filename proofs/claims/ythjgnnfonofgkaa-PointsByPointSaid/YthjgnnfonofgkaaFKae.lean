/- FKae: a region that draws its order, of which the first operations only read and must all come before one that changes memory: they may be walked in the order of the text. My own text. -/
import Derived.Test.YthjgnnfonofgkaaFKad
import Derived.Test.YthjgnnfonofgkaaFKi
set_option linter.unusedVariables false
namespace Go.FK
open Go Go.RowKit
def onB (o : Oper) (i : Nat) : Bool := o.after.any fun e => Region.binds .any e && Nat.beq e.on i
/-- The k first lean on earlier ones alone, each is leaned on by a later one up to k, and all behind k lean on one from k on. -/
def preOk (ops : Array Oper) (k : Nat) : Bool :=
  ((List.range k).all fun i => match ops[i]? with
    | some o => (o.after.all fun e => !Region.binds .any e || decide (e.on < i)) && (match o.guard with | none => true | some g => decide (g.1 < k))
    | none => false) &&
  ((List.range k).all fun i => (List.range (k + 1)).any fun j => decide (i < j) && (match ops[j]? with | some o => onB o i | none => false)) &&
  ((List.range ops.size).all fun j => decide (j ≤ k) || (match ops[j]? with | some o => o.after.any fun e => Region.binds .any e && decide (k ≤ e.on) | none => false))
def preL (k N : Nat) : Array Bool := ((List.range N).map fun j => decide (j < k)).toArray
section
variable {ops : Array Oper} {k : Nat} {L : Array Bool}
structure PreI (ops : Array Oper) (k : Nat) (L : Array Bool) : Prop where
  size : L.size = ops.size
  high : ∀ j, k ≤ j → j < ops.size → L.getD j true = false
  down : ∀ i o, i < k → ops[i]? = some o → L.getD i true = true → ∀ e ∈ o.after, Region.binds .any e = true → L.getD e.on false = true
theorem pre_back (h : preOk ops k = true) {i : Nat} (hi : i < k) : ∃ o, ops[i]? = some o ∧ (∀ e ∈ o.after, Region.binds .any e = true → e.on < i) ∧ (∀ g, o.guard = some g → g.1 < k) := by
  unfold preOk at h
  simp only [Bool.and_eq_true, List.all_eq_true, List.mem_range] at h
  have h1 := h.1.1 i hi
  cases ho : ops[i]? with
  | none => rw [ho] at h1; cases h1
  | some o =>
    rw [ho] at h1
    simp only [Bool.and_eq_true] at h1
    refine ⟨o, rfl, fun e he hb => ?_, fun g hg => ?_⟩
    · have := Array.all_eq_true'.1 h1.1 e he
      simpa [hb] using this
    · have h2 := h1.2; rw [hg] at h2; simpa using h2
theorem pre_used (h : preOk ops k = true) {i : Nat} (hi : i < k) : ∃ j o, i < j ∧ j ≤ k ∧ ops[j]? = some o ∧ ∃ e ∈ o.after, Region.binds .any e = true ∧ e.on = i := by
  unfold preOk at h
  simp only [Bool.and_eq_true, List.all_eq_true, List.mem_range, List.any_eq_true] at h
  obtain ⟨j, hj, h1, h2⟩ := h.1.2 i hi
  cases ho : ops[j]? with
  | none => rw [ho] at h2; cases h2
  | some o =>
    rw [ho] at h2
    simp only [onB] at h2
    obtain ⟨e, he, hb⟩ := Array.any_eq_true'.1 h2
    simp only [Bool.and_eq_true] at hb
    exact ⟨j, o, by simpa using h1, by omega, ho, e, he, hb.1, Nat.eq_of_beq_eq_true hb.2⟩
theorem pre_rest (h : preOk ops k = true) {j : Nat} (hj : k < j) {o : Oper} (ho : ops[j]? = some o) : ∃ e ∈ o.after, Region.binds .any e = true ∧ k ≤ e.on := by
  unfold preOk at h
  simp only [Bool.and_eq_true, List.all_eq_true, List.mem_range] at h
  have hlt : j < ops.size := (Array.getElem?_eq_some_iff.1 ho).1
  have h1 := h.2 j hlt
  rw [ho] at h1
  simp only [Bool.or_eq_true] at h1
  rcases h1 with h1 | h1
  · have := of_decide_eq_true h1; omega
  · obtain ⟨e, he, hb⟩ := Array.any_eq_true'.1 h1
    simp only [Bool.and_eq_true] at hb
    exact ⟨e, he, hb.1, of_decide_eq_true hb.2⟩
theorem getD_tf {L : Array Bool} {i : Nat} (h : i < L.size) : L.getD i false = L.getD i true := by simp [h]
/-- If one is not listed yet, none from k on may come up. -/
theorem pre_low (h : preOk ops k = true) (hI : PreI ops k L) (hk : k ≤ ops.size) {i : Nat} (hi : i < k) (hu : L.getD i true = false) {j : Nat} (hj : j ∈ Region.ready .any ops L) : j < k := by
  rcases Nat.lt_or_ge j k with hlt | hge
  · exact hlt
  exfalso
  obtain ⟨h0, o, ho, hall⟩ := mem_ready.1 hj
  rcases Nat.lt_or_ge k j with hlt | hle
  · obtain ⟨e, he, hb, hke⟩ := pre_rest h hlt ho
    have h1 := hall e he hb
    rcases Nat.lt_or_ge e.on ops.size with hs | hs
    · rw [getD_tf (by rw [hI.size]; exact hs), hI.high _ hke hs] at h1; cases h1
    · rw [Array.getD_eq_getD_getElem?, Array.getElem?_eq_none (by rw [hI.size]; exact hs)] at h1; cases h1
  · obtain rfl : j = k := by omega
    -- all of the k first are listed
    have key : ∀ m i, j - i ≤ m → i < j → L.getD i true = true := by
      intro m
      induction m with
      | zero => intro i h1 h2; omega
      | succ m ih =>
        intro i h1 h2
        obtain ⟨j', o', hij, hjk, ho', e, he, hb, heq⟩ := pre_used h h2
        rw [← heq]
        rw [← getD_tf (by rw [hI.size]; omega)]
        rcases Nat.lt_or_ge j' j with hl | hg
        · exact hI.down j' o' hl ho' (ih j' (by omega) hl) e he hb
        · obtain rfl : j' = j := by omega
          rw [ho] at ho'; cases ho'
          exact hall e he hb
    have := key j i (by omega) hi
    rw [hu] at this; cases this
/-- The first that is not listed may come up. -/
theorem pre_ready (h : preOk ops k = true) (hI : PreI ops k L) : ∀ i, i < k → L.getD i true = false → ∃ j, j < k ∧ j ∈ Region.ready .any ops L := by
  intro i
  induction i using Nat.strongRecOn with
  | ind i ih =>
    intro hi hu
    obtain ⟨o, ho, hb, _⟩ := pre_back h hi
    by_cases hx : ∃ m, m < i ∧ L.getD m true = false
    · obtain ⟨m, hm, hmu⟩ := hx
      exact ih m hm (by omega) hmu
    · refine ⟨i, hi, mem_ready.2 ⟨hu, o, ho, fun e he hbi => ?_⟩⟩
      have hlt := hb e he hbi
      have his : i < ops.size := (Array.getElem?_eq_some_iff.1 ho).1
      rw [getD_tf (by rw [hI.size]; omega)]
      cases hc : L.getD e.on true with
      | true => rfl
      | false => exact absurd ⟨_, hlt, hc⟩ hx
theorem PreI.set (hI : PreI ops k L) {i : Nat} (hi : i < k) (hr : i ∈ Region.ready .any ops L) : PreI ops k (L.setIfInBounds i true) := by
  obtain ⟨h0, o, ho, hall⟩ := mem_ready.1 hr
  refine ⟨by rw [Array.size_setIfInBounds]; exact hI.size, fun j hj hs => by rw [getD_set_ne true (by omega)]; exact hI.high j hj hs, fun j o' hj ho' hl e he hb => ?_⟩
  by_cases hij : i = j
  · subst hij
    rw [ho] at ho'; cases ho'
    exact getD_set_true (hall e he hb)
  · rw [getD_set_ne true hij] at hl
    exact getD_set_true (hI.down j o' hj ho' hl e he hb)
def unl (L : Array Bool) : Nat → Nat
  | 0 => 0
  | k + 1 => (if L.getD k true = false then 1 else 0) + unl L k
theorem unl_far {i : Nat} : ∀ k, k ≤ i → unl (L.setIfInBounds i true) k = unl L k
  | 0, _ => rfl
  | k + 1, h => by unfold unl; rw [getD_set_ne true (by omega), unl_far k (by omega)]
theorem unl_set {i : Nat} (hs : i < L.size) (hu : L.getD i true = false) : ∀ k, i < k → unl (L.setIfInBounds i true) k + 1 = unl L k
  | 0, h => by omega
  | k + 1, h => by
    unfold unl
    by_cases hik : i = k
    · subst hik
      rw [unl_far i (Nat.le_refl _), if_pos hu, if_neg (by simp [hs])]; omega
    · rw [getD_set_ne true hik, ← unl_set hs hu k (by omega)]; omega
theorem unl_zero : ∀ k, unl L k = 0 → ∀ i, i < k → L.getD i true = true
  | 0, _, i, h => by omega
  | k + 1, h, i, hi => by
    unfold unl at h
    rcases Nat.lt_or_ge i k with hl | hg
    · exact unl_zero k (by omega) i hl
    · obtain rfl : i = k := by omega
      cases hc : L.getD i true with
      | true => rfl
      | false => rw [if_pos hc] at h; omega
theorem unl_some : ∀ k, unl L k ≠ 0 → ∃ i, i < k ∧ L.getD i true = false
  | 0, h => absurd rfl h
  | k + 1, h => by
    unfold unl at h
    by_cases hc : L.getD k true = false
    · exact ⟨k, by omega, hc⟩
    · rw [if_neg hc] at h
      obtain ⟨i, hi, hu⟩ := unl_some k (by omega)
      exact ⟨i, by omega, hu⟩
theorem unl_all {N : Nat} : ∀ k, k ≤ N → unl (Array.replicate N false) k = k
  | 0, _ => rfl
  | k + 1, h => by unfold unl; rw [if_pos (by simp [show k < N by omega]), unl_all k (by omega)]; omega
theorem preL_eq (hI : PreI ops k L) (hk : k ≤ ops.size) (h0 : unl L k = 0) : L = preL k ops.size := by
  refine Array.ext (by rw [hI.size]; simp [preL]) fun i h1 h2 => ?_
  have hs : i < ops.size := by rw [← hI.size]; exact h1
  have e : L.getD i true = L[i] := by simp [h1]
  rw [← e]
  have e2 : (preL k ops.size)[i] = decide (i < k) := by simp [preL]
  rw [e2]
  rcases Nat.lt_or_ge i k with hl | hg
  · rw [unl_zero k h0 i hl, decide_eq_true hl]
  · rw [hI.high i hg hs, decide_eq_false (by omega)]
theorem ready_take (hI : PreI ops k L) (hk : k ≤ ops.size) {j : Nat} (hj : j < k) : j ∈ Region.ready .any ops L ↔ j ∈ Region.ready .any (ops.toList.take k).toArray L := by
  rw [mem_ready, mem_ready]
  have e : (ops.toList.take k).toArray[j]? = ops[j]? := by
    rw [List.getElem?_toArray, List.getElem?_take, if_pos hj, Array.getElem?_toList]
  rw [e]
theorem take_at {j : Nat} (hj : j < k) : (ops.toList.take k).toArray[j]? = ops[j]? := by
  rw [List.getElem?_toArray, List.getElem?_take, if_pos hj, Array.getElem?_toList]
theorem yielded_take {j : Nat} (hj : j < k) (t : Array Value) : yielded (ops.toList.take k).toArray t j = yielded ops t j := by
  unfold yielded; rw [take_at hj]
theorem wanted_take {o : Oper} (ho : ∀ g, o.guard = some g → g.1 < k) (t : Array Value) : Region.wanted o (yielded (ops.toList.take k).toArray t) = Region.wanted o (yielded ops t) := by
  unfold Region.wanted
  cases hg : o.guard with
  | none => rfl
  | some g =>
    obtain ⟨j, b⟩ := g
    simp only
    rw [yielded_take (ho _ hg)]
end
section
variable {P : Program} {n : Nat} {ops : Array Oper} {k fuel : Nat} {C : World → Prop} {K : Act → Prop} {Q' : Exit → Act → World → Prop}
theorem pre_any (h : preOk ops k = true) (hk : k ≤ ops.size) (hd : noDefers ops = true)
    (H : ∀ a w, C w → K a → wpAnyIn (Fw none) 0 P .any ops Q' fuel (preL k ops.size) a w) : ∀ (m : Nat) (L : Array Bool) (a : Act) (w : World), PreI ops k L → unl L k = m → C w →
    wpAnyQ P .any (ops.toList.take k).toArray C K m L a → wpAnyIn (Fw none) 0 P .any ops Q' (m + fuel) L a w
  | 0, L, a, w, hI, hu, hw, hq => by
    rw [Nat.zero_add, preL_eq hI hk hu]
    exact H a w hw hq.2
  | m + 1, L, a, w, hI, hu, hw, hq => by
    obtain ⟨i0, hi0, hu0⟩ := unl_some k (by omega : unl L k ≠ 0)
    rw [show m + 1 + fuel = m + fuel + 1 by omega]
    refine ⟨fun he => ?_, fun i hi => ?_⟩
    · obtain ⟨j, _, hj⟩ := pre_ready h hI i0 hi0 hu0
      rw [he] at hj; cases hj
    · have hik := pre_low h hI hk hi0 hu0 hi
      have hq2 := hq.2 i ((ready_take hI hk hik).1 hi)
      obtain ⟨o, ho, _, hg⟩ := pre_back h hik
      have hs : i < L.size := by rw [hI.size]; omega
      have hun := (mem_ready.1 hi).1
      have hset := unl_set hs hun k hik
      have hq3 : qOp P ops C i (wpAnyQ P .any (ops.toList.take k).toArray C K m (L.setIfInBounds i true)) a := by
        unfold qOp at hq2 ⊢
        rw [take_at hik, ho] at hq2
        rw [ho]
        simp only at hq2 ⊢
        rw [wanted_take hg] at hq2
        exact hq2
      exact opIn_quiet hd hw (fun a' w' hw' hK => pre_any h hk hd H m _ a' w' (hI.set hik hi) (by omega) hw' hK) hq3
end
theorem PreI.zero {ops : Array Oper} {k : Nat} : PreI ops k (Array.replicate ops.size false) := by
  refine ⟨by simp, fun j _ hs => by simp [hs], fun i o hi ho hl e he hb => ?_⟩
  have hs : i < ops.size := (Array.getElem?_eq_some_iff.1 ho).1
  simp [hs] at hl
section
variable {P : Program} {n : Nat} {Q : Post} {s : Fm} {w : World}
theorem W_pre {r : Option Nat} {id : Nat} {l : List Oper} (k N m : Nat) (hN : Nat.beq l.length N = true) (hm : P.follows .mixedOrders = true) (hd : noDefers l.toArray = true) (hp : preOk l.toArray k = true)
    (hs : Region.noSelect (l.take k).toArray = true) (hB : Region.lexFrom .any (l.take k).toArray (l.take k).length 0 (Array.replicate N false) = true) (hk : Nat.beq (k + m) N = true)
    (h : Lq P n (l.take k).toArray w (fun s' => ∀ w', Below w.heap.size w w' → Li P n l.toArray Q m (preL k N) s' w') (l.take k) s) : W r P n (.region id l.toArray true) Q s w := by
  refine W_draws N hN hm hd fun w' hw' => ?_
  obtain rfl := Nat.eq_of_beq_eq_true hN
  have hk := Nat.eq_of_beq_eq_true hk
  have hl : (l.take k).length = k := by rw [List.length_take]; omega
  have key := pre_any (P := P) (Q' := upQ n Q) (C := fun w' => Below w.heap.size w w') (K := fun a => ∃ s, a = Fm.act n s ∧ ∀ w', Below w.heap.size w w' → Li P n l.toArray Q m (preL k l.length) s w') (fuel := m) hp (by simp; omega) hd (by
    rintro a w2 hw2 ⟨s2, rfl, hK⟩
    have := hK w2 hw2
    unfold Li at this
    simpa using this) k (Array.replicate l.length false) (s.act n) w' (by have := PreI.zero (ops := l.toArray) (k := k); simpa using this) (unl_all k (by omega)) hw' ?_
  · unfold Li
    rw [hk] at key
    exact key
  · unfold Lq at h
    have h2 := wpAnyQ_lex (md := .any) hs (l.take k) 0 (Array.replicate l.length false) (s.act n) (fun j => by simp) hB h
    rw [hl] at h2
    simpa using h2
end
end Go.FK
