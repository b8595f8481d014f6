/- Plain laws of chapter 3: places lead there and back, and rise. -/
import Derived.Test.YtapndpldphflcaaDoorPLlost
set_option linter.unusedVariables false
namespace Go.FK
open Go Go.RowKit
theorem lix_mono {s : List UInt8} {b b' : Int} (h : b ≤ b') : ∀ n, lixF s b n ≤ lixF s b' n
  | 0 => Nat.le_refl _
  | n + 1 => by
    have ih := lix_mono (s := s) h n
    have h1 := lix_le s b n
    rw [lixF, lixF]
    split <;> split <;> omega
theorem cnt_mono {x x' : Int} (h : x ≤ x') : ∀ l, cntE x l ≤ cntE x' l
  | [] => Nat.le_refl _
  | c :: l => by
    have ih := cnt_mono h l
    rw [cntE_cons, cntE_cons]
    split <;> split <;> omega
theorem cnt_len (x : Int) : ∀ l, cntE x l ≤ l.length
  | [] => Nat.le_refl _
  | c :: l => by
    have ih := cnt_len x l
    rw [cntE_cons, List.length_cons]
    split <;> omega
/-- The characters that end by a place are the first ones. -/
theorem cnt_prefix (t : List UInt8) (x : Int) : ∀ (n p : Nat), t.length - p = n → ∀ (k : Nat) (c : Nat × Nat × Nat), (charsFrom t p)[k]? = some c → ((((c.1 + c.2.1 : Nat) : Int) ≤ x ↔ k < cntE x (charsFrom t p)) ∧ p + (if k = 0 then 0 else 1) ≤ c.1 ∧ (k = 0 → c.1 = p)) := by
  intro n
  induction n using Nat.strongRecOn with
  | _ n ih =>
    intro p hn k c hk
    by_cases hp : p < t.length
    · have h1 := dec_pos t p
      have h2 := dec_fits t p hp
      rw [charsFrom_step hp] at hk ⊢
      rw [cntE_cons]
      simp only
      have ih' := ih (t.length - (p + (dec t p).2)) (by omega) (p + (dec t p).2) rfl
      by_cases hx : ((p + (dec t p).2 : Nat) : Int) ≤ x
      · rw [if_pos hx]
        cases k with
        | zero => simp at hk; subst hk; exact ⟨⟨fun _ => by omega, fun _ => hx⟩, by simp, fun _ => rfl⟩
        | succ k =>
          have := ih' k c (by simpa using hk)
          refine ⟨⟨fun h => by have := this.1.1 h; omega, fun h => this.1.2 (by omega)⟩, ?_, fun h => by omega⟩
          have h3 := this.2.1
          rw [if_neg (by omega)]; omega
      · rw [if_neg hx]
        have h0 : cntE x (charsFrom t (p + (dec t p).2)) = 0 := by
          rcases Nat.eq_zero_or_pos (cntE x (charsFrom t (p + (dec t p).2))) with h | h
          · exact h
          · have hl := cnt_len x (charsFrom t (p + (dec t p).2))
            obtain ⟨d, hd⟩ := get_some (charsFrom t (p + (dec t p).2)) 0 (by omega)
            have := ih' 0 d hd
            have h4 := this.1.2 h
            have h5 := this.2.2 rfl
            omega
        rw [h0]
        cases k with
        | zero => simp at hk; subst hk; exact ⟨⟨fun h => absurd h hx, fun h => by omega⟩, by simp, fun _ => rfl⟩
        | succ k =>
          have := ih' k c (by simpa using hk)
          rw [h0] at this
          refine ⟨⟨fun h => by have := this.1.1 h; omega, fun h => by omega⟩, ?_, fun h => by omega⟩
          have h3 := this.2.1
          rw [if_neg (by omega)]; omega
    · rw [charsFrom_end (by omega)] at hk; simp at hk
def lnF (s : List UInt8) (i : Nat) : Nat := lixF s i (endsF s).length
theorem ln_lt (s : List UInt8) (i : Nat) : lnF s i < (endsF s).length := by
  have h1 := lix_le s i (endsF s).length
  have h2 := (ends_len s).1
  unfold lnF; omega
theorem from_next {s : List UInt8} {k : Nat} {p q : Nat × Nat × Nat} (hp : (endsF s)[k]? = some p) (hq : (endsF s)[k + 1]? = some q) : q.1 = p.2.2 ∧ p.2.1 < p.2.2 ∧ nlAt s p := by
  rcases pcsN_nth s _ _ _ k p rfl (Nat.le_refl _) (mark_len s) hp with ⟨e1, _, _⟩ | ⟨q', e1, e2, e3⟩
  · have e1' : k + 1 = (endsF s).length := e1
    have := (List.getElem?_eq_some_iff.1 hq).1
    omega
  · have e1' : (endsF s)[k + 1]? = some q' := e1
    rw [hq] at e1'; cases e1'
    refine ⟨e2, ?_, e3⟩
    rcases e3 with ⟨f, _⟩ | ⟨f, _⟩ <;> omega
theorem from_mono (s : List UInt8) : ∀ (d k : Nat) (p q : Nat × Nat × Nat), (endsF s)[k]? = some p → (endsF s)[k + d + 1]? = some q → p.2.2 ≤ q.1
  | 0, k, p, q, hp, hq => by have := (from_next hp hq).1; omega
  | d + 1, k, p, q, hp, hq => by
    have hlt : k + d + 1 < (endsF s).length := by have := (List.getElem?_eq_some_iff.1 hq).1; omega
    obtain ⟨m, hm⟩ := get_some (endsF s) (k + d + 1) hlt
    have h1 := from_mono s d k p m hp hm
    have h2 := from_next hm hq
    have h3 := ends_ok hm
    omega
/-- The line of a place within a piece. -/
theorem ln_is {s : List UInt8} {k i : Nat} {p : Nat × Nat × Nat} (hp : (endsF s)[k]? = some p) (h1 : p.1 ≤ i ∨ k = 0) (h2 : i < p.2.2 ∨ k + 1 = (endsF s).length) : lnF s i = k := by
  have hk := (List.getElem?_eq_some_iff.1 hp).1
  have key : ∀ n, k + 1 ≤ n → n ≤ (endsF s).length → lixF s i n = k := by
    intro n
    induction n with
    | zero => intro h _; omega
    | succ n ih =>
      intro hn hl
      by_cases e : n = k
      · subst e
        exact lix_yes (by rcases h1 with h1 | h1
                          · right; rw [from_at hp]; omega
                          · left; exact h1)
      · obtain ⟨q, hq⟩ := get_some (endsF s) n (by omega)
        have h3 := from_mono s (n - k - 1) k p q hp (by rw [show k + (n - k - 1) + 1 = n by omega]; exact hq)
        rw [lix_no (by omega) (by rw [from_at hq]; rcases h2 with h2 | h2 <;> omega)]
        exact ih (by omega) (by omega)
  exact key _ (by omega) (Nat.le_refl _)
theorem ln_from {s : List UInt8} {i : Nat} {p : Nat × Nat × Nat} (hm : markN s ≤ i) (hp : (endsF s)[lnF s i]? = some p) : p.1 ≤ i := by
  have key : ∀ n, n ≤ (endsF s).length → lixF s i n = 0 ∨ (fromAt s (lixF s i n) : Int) ≤ i := by
    intro n
    induction n with
    | zero => intro _; exact .inl rfl
    | succ n ih =>
      intro hn
      rw [lixF]
      split
      · rename_i h
        rcases h with rfl | h
        · exact .inl rfl
        · exact .inr h
      · exact ih (by omega)
  rcases key _ (Nat.le_refl _) with h | h
  · have h0 : lnF s i = 0 := h
    rw [h0] at hp
    have := pcsN_nth.pcsN_head s _ _ _ p hp
    omega
  · have h' : (fromAt s (lnF s i) : Int) ≤ i := h
    rw [from_at hp] at h'; omega
def colF (s : List UInt8) (i : Nat) (p : Nat × Nat × Nat) : Nat := 1 + cntE ((i : Int) - (p.1 : Nat)) (charsFrom (textOf s p) 0)
theorem where_at {s : List UInt8} {i : Nat} {p : Nat × Nat × Nat} (hi : i ≤ s.length) (hp : (endsF s)[lnF s i]? = some p) : whereF s i = (((lnF s i + 1 : Nat) : Int), (colF s i p : Int)) :=
  where_is (by omega) (by omega) rfl hp rfl
/-- Where it leads back to. -/
theorem back_at {s : List UInt8} {i : Nat} {p : Nat × Nat × Nat} (hi : i ≤ s.length) (hp : (endsF s)[lnF s i]? = some p) :
    (∃ c, (charsFrom (textOf s p) 0)[colF s i p - 1]? = some c ∧ placeF s (whereF s i).1 (whereF s i).2 = (((p.1 + c.1 : Nat) : Int), 0)) ∨ (colF s i p = (charsFrom (textOf s p) 0).length + 1 ∧ placeF s (whereF s i).1 (whereF s i).2 = ((p.2.1 : Int), 0)) := by
  rw [where_at hi hp]
  have hl := ln_lt s i
  have hc := cnt_len ((i : Int) - (p.1 : Nat)) (charsFrom (textOf s p) 0)
  have h0 : ¬ ((((lnF s i + 1 : Nat) : Int)) < 1 ∨ ((endsF s).length : Int) < ((lnF s i + 1 : Nat) : Int) ∨ ((colF s i p : Nat) : Int) < 1) := by unfold colF; omega
  have hp' : (endsF s)[((((lnF s i + 1 : Nat) : Int)) - 1).toNat]? = some p := by rw [show ((((lnF s i + 1 : Nat) : Int)) - 1).toNat = lnF s i by omega]; exact hp
  have e1 : (((colF s i p : Nat) : Int) - 1).toNat = colF s i p - 1 := by omega
  by_cases h : colF s i p - 1 < (charsFrom (textOf s p) 0).length
  · obtain ⟨c, hcc⟩ := get_some _ _ h
    exact .inl ⟨c, hcc, place_char h0 hp' (by rw [e1]; exact hcc)⟩
  · have e : colF s i p = (charsFrom (textOf s p) 0).length + 1 := by unfold colF at h ⊢; omega
    exact .inr ⟨e, place_end h0 hp' (by rw [e]; simp)⟩
def goodPos (s : List UInt8) (i : Nat) : Prop := placeF s (whereF s i).1 (whereF s i).2 = ((i : Int), 0)
theorem back_ok {s : List UInt8} {i : Nat} (hi : i ≤ s.length) : (placeF s (whereF s i).1 (whereF s i).2).2 = 0 := by
  obtain ⟨p, hp⟩ := get_some (endsF s) (lnF s i) (ln_lt s i)
  rcases back_at hi hp with ⟨c, _, h⟩ | ⟨_, h⟩ <;> rw [h]
theorem text_len {s : List UInt8} {k : Nat} {p : Nat × Nat × Nat} (hp : (endsF s)[k]? = some p) : (textOf s p).length = p.2.1 - p.1 := by
  have := ends_ok hp
  unfold textOf; simp; omega
/-- Behind the mark it never leads further. -/
theorem back_le {s : List UInt8} {i : Nat} (hi : i ≤ s.length) (hm : markN s ≤ i) : (placeF s (whereF s i).1 (whereF s i).2).1 ≤ i := by
  obtain ⟨p, hp⟩ := get_some (endsF s) (lnF s i) (ln_lt s i)
  have hf := ln_from hm hp
  have ho := ends_ok hp
  have hl := text_len hp
  have pre := cnt_prefix (textOf s p) ((i : Int) - (p.1 : Nat)) _ 0 rfl
  rcases back_at hi hp with ⟨c, hc, h⟩ | ⟨e, h⟩
  · rw [h]
    simp only
    by_cases h0 : colF s i p - 1 = 0
    · have := (pre _ c hc).2.2 h0; omega
    · obtain ⟨d, hd⟩ := get_some (charsFrom (textOf s p) 0) (colF s i p - 1 - 1) (by have := (List.getElem?_eq_some_iff.1 hc).1; omega)
      have h1 := (pre _ d hd).1.2 (by unfold colF at h0 ⊢; omega)
      have h2 := (chars_next hd).2.2.2.1 c (by rw [show colF s i p - 1 - 1 + 1 = colF s i p - 1 by omega]; exact hc)
      omega
  · rw [h]
    simp only
    by_cases h0 : (charsFrom (textOf s p) 0).length = 0
    · by_cases h1 : 0 < (textOf s p).length
      · rw [charsFrom_step h1] at h0; simp at h0
      · omega
    · obtain ⟨d, hd⟩ := get_some (charsFrom (textOf s p) 0) ((charsFrom (textOf s p) 0).length - 1) (by omega)
      have h1 := (pre _ d hd).1.2 (by unfold colF at e; omega)
      have h2 := (chars_next hd).2.2.2.2 (by omega)
      omega
theorem good_char {s : List UInt8} {k j : Nat} {p c : Nat × Nat × Nat} (hp : (endsF s)[k]? = some p) (hc : (charsFrom (textOf s p) 0)[j]? = some c) : goodPos s (p.1 + c.1) := by
  have ho := ends_ok hp
  have hl := text_len hp
  have hn := chars_next hc
  have e : lnF s (p.1 + c.1) = k := ln_is hp (.inl (by omega)) (.inl (by omega))
  have hp' : (endsF s)[lnF s (p.1 + c.1)]? = some p := by rw [e]; exact hp
  have pre := cnt_prefix (textOf s p) (((p.1 + c.1 : Nat) : Int) - (p.1 : Nat)) _ 0 rfl
  have hj : colF s (p.1 + c.1) p - 1 = j := by
    have h1 := (pre j c hc).1
    have h2 : ¬ j < cntE (((p.1 + c.1 : Nat) : Int) - (p.1 : Nat)) (charsFrom (textOf s p) 0) := fun h => by have := h1.2 h; omega
    by_cases h0 : j = 0
    · unfold colF
      have hj0 := (pre j c hc).2.2 h0
      rcases Nat.eq_zero_or_pos (cntE (((p.1 + c.1 : Nat) : Int) - (p.1 : Nat)) (charsFrom (textOf s p) 0)) with h | h
      · omega
      · omega
    · obtain ⟨d, hd⟩ := get_some (charsFrom (textOf s p) 0) (j - 1) (by have := (List.getElem?_eq_some_iff.1 hc).1; omega)
      have h3 := (chars_next hd).2.2.2.1 c (by rw [show j - 1 + 1 = j by omega]; exact hc)
      have h4 := (pre (j - 1) d hd).1.1 (by omega)
      unfold colF; omega
  rcases back_at (by omega) hp' with ⟨c', hc', h⟩ | ⟨e', h⟩
  · rw [hj, hc] at hc'; cases hc'
    exact h
  · exfalso
    have := (List.getElem?_eq_some_iff.1 hc).1
    omega
theorem good_to {s : List UInt8} {k : Nat} {p : Nat × Nat × Nat} (hp : (endsF s)[k]? = some p) : goodPos s p.2.1 := by
  have ho := ends_ok hp
  have hl := text_len hp
  have e : lnF s p.2.1 = k := by
    refine ln_is hp (.inl (by omega)) ?_
    rcases pcsN_nth s _ _ _ k p rfl (Nat.le_refl _) (mark_len s) hp with ⟨e1, _, _⟩ | ⟨q, e1, e2, e3⟩
    · exact .inr e1
    · left; rcases e3 with ⟨f, _⟩ | ⟨f, _⟩ <;> omega
  have hp' : (endsF s)[lnF s p.2.1]? = some p := by rw [e]; exact hp
  have pre := cnt_prefix (textOf s p) (((p.2.1 : Nat) : Int) - (p.1 : Nat)) _ 0 rfl
  rcases back_at (by omega) hp' with ⟨c', hc', h⟩ | ⟨e', h⟩
  · exfalso
    have h1 := (pre _ c' hc').1.1 (by have := (chars_next hc').1; omega)
    unfold colF at h1; omega
  · exact h
theorem good_len (s : List UInt8) : goodPos s s.length := by
  obtain ⟨init, b, e, k1, k2, k3, k4⟩ := ends_shape s
  have hp : (endsF s)[init.length]? = some (b, s.length, s.length) := by rw [e]; simp
  have h := good_to hp
  exact h
theorem rise {s : List UInt8} {i : Nat} (hi : i + 1 ≤ s.length) : (whereF s i).1 < (whereF s ((i + 1 : Nat) : Int)).1 ∨ ((whereF s i).1 = (whereF s ((i + 1 : Nat) : Int)).1 ∧ (whereF s i).2 ≤ (whereF s ((i + 1 : Nat) : Int)).2) := by
  obtain ⟨p, hp⟩ := get_some (endsF s) (lnF s i) (ln_lt s i)
  obtain ⟨q, hq⟩ := get_some (endsF s) (lnF s (i + 1)) (ln_lt s (i + 1))
  rw [where_at (by omega) hp, where_at hi hq]
  have hm : lnF s i ≤ lnF s (i + 1) := lix_mono (by omega) _
  rcases Nat.lt_or_ge (lnF s i) (lnF s (i + 1)) with h | h
  · left; simp only; omega
  · have e : lnF s i = lnF s (i + 1) := by omega
    rw [e, hq] at hp; cases hp
    right
    refine ⟨by simp only; omega, ?_⟩
    have := cnt_mono (x := (i : Int) - (p.1 : Nat)) (x' := ((i + 1 : Nat) : Int) - (p.1 : Nat)) (by omega) (charsFrom (textOf s p) 0)
    simp only [colF]; omega
theorem where_pos {s : List UInt8} {i : Nat} (hi : i ≤ s.length) : 1 ≤ (whereF s i).1 ∧ 1 ≤ (whereF s i).2 := by
  obtain ⟨p, hp⟩ := get_some (endsF s) (lnF s i) (ln_lt s i)
  rw [where_at hi hp]
  unfold colF
  simp only; omega
def encBool (b : Bool) : List Value := [.bool b]
theorem made_bools (m : Nat) : (madeCells #[.bool false] m) = ((List.replicate m false).flatMap encBool).toArray := by
  have h : (List.replicate m false).flatMap encBool = List.replicate m (.bool false) := by
    induction m with
    | zero => rfl
    | succ m ih => rw [List.replicate_succ, List.flatMap_cons, ih, List.replicate_succ]; rfl
  rw [h]
  apply Array.ext
  · rw [size_madeCells]; simp
  · intro j h1 h2
    simp only [madeCells, Array.getElem_map, Array.getElem_range]
    simp [Nat.mod_one]
section ops
variable {r : Option Nat} {P : Program} {n : Nat} {Q : Post} {s : Fm} {w : World} {ops : Array Oper} {rest : List Oper}
variable {d : Option Tmp} {ty : TypeId} {pos : String} {af : Array Edge}
/-- A row of `m` bools is laid out. -/
theorem L_makeB {T E bytes m : Nat} {X Y : Operand} {kl kc : IntKind} (he : Elem P T E 1 bytes) (hz : (P.info? E).map (·.zero) = some (some (.bool false)))
    (hx : s.ev n X = .int kl (m : Nat)) (hy : s.ev n Y = .int kc (m : Nat)) (hb : bytes * m ≤ 281474976710656) (hm : m ≤ 1073741824)
    (h : ∀ b w', New w w' b (.cells ((List.replicate m false).flatMap encBool).toArray E (0, 0)) → L r P n ops Q rest (s.put d (.slice (some ⟨b, 0, none⟩) m m)) w') :
    L r P n ops Q (⟨d, .makeSlice T X Y, ty, pos, af, none⟩ :: rest) s w := by
  have hi := he.hi
  cases hq2 : P.info? E with
  | none => rw [hq2] at hi; cases hi
  | some i =>
    rw [hq2] at hi hz
    simp only [Option.map_some, Option.some.injEq, Prod.mk.injEq] at hi hz
    obtain ⟨-, h2, h3⟩ := hi
    refine L_new (fun b => .slice (some ⟨b, 0, none⟩) m m) _ ?_ rfl h
    have hb' : (i.bytes : Int) * (m : Int) ≤ 281474976710656 := by rw [h3, ← Int.natCast_mul]; omega
    have hr := run_make (P := P) w T E i _ he.ht hq2 hz kl kc (m : Int) (m : Int) (by omega) (Int.le_refl _) hb' (by omega)
    rw [Int.toNat_natCast, h2, Nat.mul_one] at hr
    rw [show Value.cells (.bool false) = #[.bool false] from rfl, made_bools] at hr
    simp only [execOp, hx, hy, Sem.run_bind, hr, Result.andThen_ok, Sem.run_pure]
end ops
theorem Row.madeB {w w' : World} {b B E m : Nat} (hN : New w w' b (.cells ((List.replicate m false).flatMap encBool).toArray E (0, 0))) (hB : B ≤ b) (hm : m ≤ 1048576) :
    Row w' B E 1 encBool (.slice (some ⟨b, 0, none⟩) m m) (List.replicate m false) := by
  have h := Row.made (E := E) (k := 1) (enc := encBool) (List.replicate m false) hN hB rfl (by
    have : ∀ l : List Bool, (l.flatMap encBool).length = l.length * 1 := fun l => by
      induction l with
      | nil => rfl
      | cons a l ih => rw [List.flatMap_cons, List.length_append, ih, List.length_cons]; simp [encBool]; omega
    exact this _) (by simpa using hm)
  simpa using h
/-! ### the row of begins -/
def goodRow (s : List UInt8) (l : List Bool) : Prop := l.length = s.length + 1 ∧ ∀ i : Nat, l[i]? = some true → goodPos s i
theorem good_zero (s : List UInt8) : goodRow s (List.replicate (s.length + 1) false) := ⟨by simp, fun i h => by
  have := List.mem_of_getElem? h
  simp at this⟩
theorem good_set {s : List UInt8} {l : List Bool} {j : Nat} (h : goodRow s l) (hg : goodPos s j) : goodRow s (l.set j true) := ⟨by rw [List.length_set]; exact h.1, fun i hi => by
  rw [List.getElem?_set] at hi
  split at hi
  · rename_i e; subst e; exact hg
  · exact h.2 i hi⟩
theorem good_true {s : List UInt8} {l : List Bool} {i : Nat} {b : Bool} (h : goodRow s l) (hb : l[i]? = some b) (e : b = true) : (placeF s (whereF s i).1 (whereF s i).2).1 = i := by
  subst e
  have := h.2 i hb
  unfold goodPos at this
  rw [this]
theorem pcsR_at {s : List UInt8} {k : Nat} {p : Nat × Nat × Nat} (hp : (pcsR s)[k]? = some p) : (endsF s)[k]? = some p := by
  obtain ⟨init, b, e, k1, k2, k3, k4⟩ := ends_shape s
  have hf : init.filter keepP = init := filter_all fun x hx => (k1 x hx).1
  have key : pcsR s = init ++ if keepP (b, s.length, s.length) = true then [(b, s.length, s.length)] else [] := by rw [pcsR_ends, e, List.filter_append, hf, List.filter_cons, List.filter_nil]
  have hlt := (List.getElem?_eq_some_iff.1 hp).1
  rw [key] at hp hlt
  rw [e]
  by_cases hb : keepP (b, s.length, s.length) = true
  · rw [if_pos hb] at hp; exact hp
  · rw [if_neg hb, List.append_nil] at hp hlt
    rw [List.getElem?_append_left hlt]; exact hp
theorem good_charR {s : List UInt8} {k j : Nat} {p : Nat × Nat × Nat} {y : Nat × Nat × Int × Bool} (hp : (pcsR s)[k]? = some p) (hy : (chF ((s.take p.2.1).drop p.1))[j]? = some y) : goodPos s (p.1 + y.1) := by
  obtain ⟨c, hc, rfl⟩ := chF_at hy
  exact good_char (pcsR_at hp) hc
theorem good_toR {s : List UInt8} {k : Nat} {p : Nat × Nat × Nat} (hp : (pcsR s)[k]? = some p) : goodPos s p.2.1 := good_to (pcsR_at hp)
end Go.FK
