/- Plain laws of chapter 3: places, lines and columns. -/
import Derived.Test.YtjdcmeoiommglaaDoorPLlaw
set_option linter.unusedVariables false
namespace Go.FK
open Go Go.RowKit
section ops
variable {r : Option Nat} {P : Program} {n : Nat} {Q : Post} {s : Fm} {w : World} {ops : Array Oper} {rest : List Oper}
variable {d : Option Tmp} {ty : TypeId} {pos : String} {af : Array Edge}
theorem L_maxN {X Y : Operand} {ats : Array TypeId} (x y : Nat) (hx : s.ev n X = .int .i64 (x : Nat)) (hy : s.ev n Y = .int .i64 (y : Nat)) (h : L r P n ops Q rest (s.put d (.int .i64 ((max x y : Nat) : Int))) w) :
    L r P n ops Q (⟨d, .call ⟨.builtin .max, #[X, Y], ats⟩, ty, pos, af, none⟩ :: rest) s w :=
  L_max (x : Int) (y : Int) hx hy (by rw [show max (x : Int) (y : Int) = ((max x y : Nat) : Int) by omega]; exact h)
end ops
theorem plain_slice {P : Program} {n : Nat} {s : Fm} {w : World} {d : Option Tmp} {t : TypeId} {X : Operand} {lo hi mx : Option Operand} {ty : TypeId} {pos : String} {af : Array Edge} : plainB ((execOp (s.ev n) ⟨d, .slice t X lo hi mx, ty, pos, af, none⟩).run P w) = true := by
  simp only [execOp, Sem.run_bind]
  generalize Sem.run P (Instr.sliceAt _ _ _ _ _) w = r
  cases r <;> rfl
theorem plain_range {P : Program} {n : Nat} {s : Fm} {w : World} {d : Option Tmp} {t : TypeId} {X : Operand} {ty : TypeId} {pos : String} {af : Array Edge} : plainB ((execOp (s.ev n) ⟨d, .range t X, ty, pos, af, none⟩).run P w) = true := by
  simp only [execOp, Sem.run_bind]
  generalize Sem.run P _ w = r
  cases r <;> rfl
/-- All pieces, the last one too. -/
def endsF (s : List UInt8) : List (Nat × Nat × Nat) := pcsFrom s (markN s) (markN s)
theorem pcsI_ends (s : List UInt8) : pcsI s = (endsF s).map toI := rfl
theorem pcsR_ends (s : List UInt8) : pcsR s = (endsF s).filter keepP := rfl
theorem pcsN_shape (s : List UInt8) : ∀ (n a i : Nat), s.length - i = n → a ≤ i → i ≤ s.length → ∃ init b, pcsN s n a i = init ++ [(b, s.length, s.length)] ∧ (∀ p ∈ init, keepP p = true ∧ p.2.1 < p.2.2) ∧ (init = [] → b = a) ∧ (∀ p, init.getLast? = some p → p.2.2 = b) ∧ b ≤ s.length
  | 0, a, i, h, h1, h2 => ⟨[], a, rfl, by simp, fun _ => rfl, by simp, by omega⟩
  | n + 1, a, i, h, h1, h2 => by
    rw [pcsN]
    split
    · obtain ⟨init, b, e, k1, k2, k3, k4⟩ := pcsN_shape s n (i + 1) (i + 1) (by omega) (Nat.le_refl _) (by omega)
      have hc := crN_le s a i
      refine ⟨(a, crN s a i, i + 1) :: init, b, by rw [e]; rfl, ?_, by simp, ?_, k4⟩
      · intro p hp
        rcases List.mem_cons.1 hp with rfl | hp
        · exact ⟨by simp [keepP]; omega, by simp only; omega⟩
        · exact k1 p hp
      · intro p hp
        cases init with
        | nil => simp at hp; subst hp; exact (k2 rfl).symm
        | cons q l => rw [List.getLast?_cons_cons] at hp; exact k3 p hp
    · exact pcsN_shape s n a (i + 1) (by omega) (by omega) (by omega)
theorem ends_shape (s : List UInt8) : ∃ init b, endsF s = init ++ [(b, s.length, s.length)] ∧ (∀ p ∈ init, keepP p = true ∧ p.2.1 < p.2.2) ∧ (init = [] → b = markN s) ∧ (∀ p, init.getLast? = some p → p.2.2 = b) ∧ b ≤ s.length :=
  pcsN_shape s _ _ _ rfl (Nat.le_refl _) (mark_len s)
theorem filter_all {α : Type} {p : α → Bool} {l : List α} (h : ∀ x ∈ l, p x = true) : l.filter p = l := List.filter_eq_self.2 h
/-- Nothing stands behind the last end: one piece more. -/
theorem ends_more {s : List UInt8} {n : Nat} (h : ((pcsR s).length = 0 ∧ n = max (markN s) 0) ∨ ∃ p, (pcsR s)[(pcsR s).length - 1]? = some p ∧ p.2.1 < p.2.2 ∧ n = p.2.2) : pcsR s ++ [(n, n, n)] = endsF s := by
  obtain ⟨init, b, e, k1, k2, k3, k4⟩ := ends_shape s
  have hf : init.filter keepP = init := filter_all fun x hx => (k1 x hx).1
  have key : pcsR s = init ++ if keepP (b, s.length, s.length) = true then [(b, s.length, s.length)] else [] := by rw [pcsR_ends, e, List.filter_append, hf, List.filter_cons, List.filter_nil]
  rw [key] at h ⊢
  rw [e]
  by_cases hb : b < s.length
  · have hk : keepP (b, s.length, s.length) = true := by simp [keepP]; omega
    rw [if_pos hk] at h
    exfalso
    rcases h with ⟨h1, _⟩ | ⟨p, h1, h2, _⟩
    · simp at h1
    · simp at h1; subst h1; simp at h2
  · have hk : ¬ keepP (b, s.length, s.length) = true := by simp [keepP]; omega
    rw [if_neg hk, List.append_nil] at h ⊢
    have hbl : b = s.length := by omega
    have hn : n = s.length := by
      rcases h with ⟨h1, h2⟩ | ⟨p, h1, h2, h3⟩
      · have := k2 (List.eq_nil_of_length_eq_zero h1); omega
      · have := k3 p (by rw [List.getLast?_eq_getElem?]; exact h1); omega
    rw [hn, hbl]
theorem ends_same {s : List UInt8} {p : Nat × Nat × Nat} (h : (pcsR s)[(pcsR s).length - 1]? = some p) (h2 : p.2.2 ≤ p.2.1) : pcsR s = endsF s := by
  obtain ⟨init, b, e, k1, k2, k3, k4⟩ := ends_shape s
  have hf : init.filter keepP = init := filter_all fun x hx => (k1 x hx).1
  have key : pcsR s = init ++ if keepP (b, s.length, s.length) = true then [(b, s.length, s.length)] else [] := by rw [pcsR_ends, e, List.filter_append, hf, List.filter_cons, List.filter_nil]
  rw [key] at h ⊢
  rw [e]
  by_cases hb : b < s.length
  · have hk : keepP (b, s.length, s.length) = true := by simp [keepP]; omega
    rw [if_pos hk]
  · have hk : ¬ keepP (b, s.length, s.length) = true := by simp [keepP]; omega
    rw [if_neg hk, List.append_nil] at h
    have := (k1 p (List.mem_of_getElem? h)).2
    omega
theorem ends_ok {s : List UInt8} {i : Nat} {p : Nat × Nat × Nat} (h : (endsF s)[i]? = some p) : p.1 ≤ p.2.1 ∧ p.2.1 ≤ p.2.2 ∧ p.2.2 ≤ s.length :=
  pcs_okN s _ _ _ rfl (Nat.le_refl _) (mark_len s) p (List.mem_of_getElem? h)
theorem ends_len (s : List UInt8) : 1 ≤ (endsF s).length ∧ (endsF s).length ≤ s.length + 1 := by
  have := pcsI_len s
  rw [pcsI_ends, List.length_map] at this; exact this
theorem pcsR_len (s : List UInt8) : (pcsR s).length ≤ s.length + 1 := by
  rw [pcsR_ends]; exact Nat.le_trans (List.length_filter_le _ _) (ends_len s).2
theorem pcsR_ok {s : List UInt8} {i : Nat} {p : Nat × Nat × Nat} (h : (pcsR s)[i]? = some p) : p.1 ≤ p.2.1 ∧ p.2.1 ≤ p.2.2 ∧ p.2.2 ≤ s.length := by
  have hm := List.mem_of_getElem? h
  rw [pcsR_ends] at hm
  obtain ⟨i, hi⟩ := List.mem_iff_getElem?.1 (List.mem_filter.1 hm).1
  exact ends_ok hi
theorem pcsI_at {s : List UInt8} {i : Nat} {q : Int × Int × Int} (h : (pcsI s)[i]? = some q) : ∃ p, (endsF s)[i]? = some p ∧ q = toI p := by
  rw [pcsI_ends, List.getElem?_map] at h
  cases hc : (endsF s)[i]? with
  | none => rw [hc] at h; cases h
  | some c => rw [hc] at h; cases h; exact ⟨c, rfl, rfl⟩
theorem pcsI_lenE (s : List UInt8) : (pcsI s).length = (endsF s).length := by rw [pcsI_ends, List.length_map]
/-! ### the place of a line and a column -/
def textOf (s : List UInt8) (p : Nat × Nat × Nat) : List UInt8 := (s.take p.2.1).drop p.1
def placeF (s : List UInt8) (line col : Int) : Int × Int :=
  if line < 1 ∨ ((endsF s).length : Int) < line ∨ col < 1 then (0, 2) else
  match (endsF s)[(line - 1).toNat]? with
  | none => (0, 2)
  | some p => match (charsFrom (textOf s p) 0)[(col - 1).toNat]? with
    | some c => (((p.1 + c.1 : Nat) : Int), 0)
    | none => if col = ((charsFrom (textOf s p) 0).length : Int) + 1 then ((p.2.1 : Int), 0) else (0, 2)
theorem place_arg {s : List UInt8} {line col : Int} (h : line < 1 ∨ ((endsF s).length : Int) < line ∨ col < 1) : placeF s line col = (0, 2) := by unfold placeF; rw [if_pos h]
theorem place_char {s : List UInt8} {line col : Int} {p c : Nat × Nat × Nat} (h : ¬ (line < 1 ∨ ((endsF s).length : Int) < line ∨ col < 1)) (hp : (endsF s)[(line - 1).toNat]? = some p) (hc : (charsFrom (textOf s p) 0)[(col - 1).toNat]? = some c) : placeF s line col = (((p.1 + c.1 : Nat) : Int), 0) := by
  unfold placeF; rw [if_neg h, hp]; simp only; rw [hc]
theorem place_end {s : List UInt8} {line col : Int} {p : Nat × Nat × Nat} (h : ¬ (line < 1 ∨ ((endsF s).length : Int) < line ∨ col < 1)) (hp : (endsF s)[(line - 1).toNat]? = some p) (hc : col = ((charsFrom (textOf s p) 0).length : Int) + 1) : placeF s line col = ((p.2.1 : Int), 0) := by
  unfold placeF; rw [if_neg h, hp]; simp only
  rw [List.getElem?_eq_none (by omega)]; simp only; rw [if_pos hc]
theorem place_far {s : List UInt8} {line col : Int} {p : Nat × Nat × Nat} (h : ¬ (line < 1 ∨ ((endsF s).length : Int) < line ∨ col < 1)) (hp : (endsF s)[(line - 1).toNat]? = some p) (hc : ((charsFrom (textOf s p) 0).length : Int) + 1 < col) : placeF s line col = (0, 2) := by
  unfold placeF; rw [if_neg h, hp]; simp only
  rw [List.getElem?_eq_none (by omega)]; simp only; rw [if_neg (by omega)]
theorem chars_drop {t : List UInt8} {p n : Nat} (h : p < t.length) (hi : charsFrom t p = (charsFrom t 0).drop n) : (charsFrom t 0)[n]? = some (p, (dec t p).2, (dec t p).1) ∧ charsFrom t (p + (dec t p).2) = (charsFrom t 0).drop (n + 1) := by
  rw [charsFrom_step h] at hi
  have h0 : (charsFrom t 0)[n]? = some (p, (dec t p).2, (dec t p).1) := by
    have := congrArg (fun l => l[0]?) hi
    simpa using this.symm
  refine ⟨h0, ?_⟩
  rw [drop_some h0] at hi
  exact (List.cons.inj hi).2
theorem chars_dropEnd {t : List UInt8} {p n : Nat} (h : t.length ≤ p) (hn : n ≤ (charsFrom t 0).length) (hi : charsFrom t p = (charsFrom t 0).drop n) : n = (charsFrom t 0).length := by
  rw [charsFrom_end h] at hi
  have := congrArg List.length hi
  rw [List.length_drop] at this
  simp at this; omega
/-- the program's, by its pieces in integers -/
theorem placeI_char {s : List UInt8} {line col : Int} {q : Int × Int × Int} {pos n : Nat} (h : ¬ (line < 1 ∨ ((pcsI s).length : Int) < line ∨ col < 1)) (hq : (pcsI s)[(line - 1).toNat]? = some q)
    (hi : charsFrom ((s.take q.2.1.toNat).drop q.1.toNat) pos = (charsFrom ((s.take q.2.1.toNat).drop q.1.toNat) 0).drop n) (hp : pos < ((s.take q.2.1.toNat).drop q.1.toNat).length) (hn : (n : Int) + 1 = col) : placeF s line col = (q.1 + (pos : Nat), 0) := by
  obtain ⟨p, hp', rfl⟩ := pcsI_at hq
  rw [pcsI_lenE] at h
  have h1 := (chars_drop hp hi).1
  have e : (col - 1).toNat = n := by omega
  rw [place_char h hp' (by rw [e]; exact h1)]
  simp [toI]
theorem placeI_end {s : List UInt8} {line col : Int} {q : Int × Int × Int} {pos n : Nat} (h : ¬ (line < 1 ∨ ((pcsI s).length : Int) < line ∨ col < 1)) (hq : (pcsI s)[(line - 1).toNat]? = some q)
    (hi : charsFrom ((s.take q.2.1.toNat).drop q.1.toNat) pos = (charsFrom ((s.take q.2.1.toNat).drop q.1.toNat) 0).drop n) (hn1 : n ≤ (charsFrom ((s.take q.2.1.toNat).drop q.1.toNat) 0).length) (hp : ((s.take q.2.1.toNat).drop q.1.toNat).length ≤ pos) (hn : (n : Int) + 1 = col) : placeF s line col = (q.2.1, 0) := by
  obtain ⟨p, hp', rfl⟩ := pcsI_at hq
  rw [pcsI_lenE] at h
  have h1 := chars_dropEnd hp hn1 hi
  rw [place_end h hp' (by rw [← hn, h1]; rfl)]; rfl
theorem placeI_far {s : List UInt8} {line col : Int} {q : Int × Int × Int} {pos n : Nat} (h : ¬ (line < 1 ∨ ((pcsI s).length : Int) < line ∨ col < 1)) (hq : (pcsI s)[(line - 1).toNat]? = some q)
    (hi : charsFrom ((s.take q.2.1.toNat).drop q.1.toNat) pos = (charsFrom ((s.take q.2.1.toNat).drop q.1.toNat) 0).drop n) (hn1 : n ≤ (charsFrom ((s.take q.2.1.toNat).drop q.1.toNat) 0).length) (hp : ((s.take q.2.1.toNat).drop q.1.toNat).length ≤ pos) (hn : (n : Int) + 1 ≤ col) (hne : (n : Int) + 1 ≠ col) : placeF s line col = (0, 2) := by
  obtain ⟨p, hp', rfl⟩ := pcsI_at hq
  rw [pcsI_lenE] at h
  have h1 := chars_dropEnd hp hn1 hi
  exact place_far h hp' (by have h2 : ((charsFrom (textOf s p) 0).length : Int) = n := by rw [h1]; rfl
                            omega)
theorem placeI_arg {s : List UInt8} {line col : Int} (h : line < 1 ∨ ((pcsI s).length : Int) < line ∨ col < 1) : placeF s line col = (0, 2) := place_arg (by rw [pcsI_lenE] at h; exact h)
theorem chF_le {t : List UInt8} {i : Nat} {y : Nat × Nat × Int × Bool} (h : (chF t)[i]? = some y) : y.1 + y.2.1 ≤ t.length := by
  obtain ⟨c, hc, rfl⟩ := chF_at h
  exact (chars_next hc).1
theorem placeR_char {s : List UInt8} {line col : Int} {p : Nat × Nat × Nat} {y : Nat × Nat × Int × Bool} (hp : (endsF s)[(line - 1).toNat]? = some p) (hy : (chF ((s.take p.2.1).drop p.1))[(col - 1).toNat]? = some y) (h : ¬ (line < 1 ∨ ((endsF s).length : Int) < line ∨ col < 1)) : placeF s line col = (((p.1 + y.1 : Nat) : Int), 0) := by
  obtain ⟨c, hc, rfl⟩ := chF_at hy
  exact place_char h hp hc
theorem placeR_end {s : List UInt8} {line col : Int} {p : Nat × Nat × Nat} (hp : (endsF s)[(line - 1).toNat]? = some p) (hc : col = (((chF ((s.take p.2.1).drop p.1)).length + 1 : Nat) : Int)) (h : ¬ (line < 1 ∨ ((endsF s).length : Int) < line ∨ col < 1)) : placeF s line col = ((p.2.1 : Int), 0) := by
  rw [chF_len] at hc; exact place_end h hp (by unfold textOf; omega)
theorem placeR_far {s : List UInt8} {line col : Int} {p : Nat × Nat × Nat} (hp : (endsF s)[(line - 1).toNat]? = some p) (hc : (((chF ((s.take p.2.1).drop p.1)).length : Nat) : Int) < col) (hne : col ≠ (((chF ((s.take p.2.1).drop p.1)).length + 1 : Nat) : Int)) (h : ¬ (line < 1 ∨ ((endsF s).length : Int) < line ∨ col < 1)) : placeF s line col = (0, 2) := by
  rw [chF_len] at hc hne; exact place_far h hp (by unfold textOf; omega)
/-! ### the line and the column of a place -/
def fromAt (s : List UInt8) (i : Nat) : Nat := ((endsF s).getD i (0, 0, 0)).1
def lixF (s : List UInt8) (b : Int) : Nat → Nat
  | 0 => 0
  | i + 1 => if i = 0 ∨ (fromAt s i : Int) ≤ b then i else lixF s b i
theorem lix_le (s : List UInt8) (b : Int) : ∀ i, lixF s b i ≤ i - 1
  | 0 => Nat.le_refl _
  | i + 1 => by
    have := lix_le s b i
    rw [lixF]
    split <;> omega
def cntE (x : Int) (l : List (Nat × Nat × Nat)) : Nat := (l.filter fun c => decide (((c.1 + c.2.1 : Nat) : Int) ≤ x)).length
def cntA (x : Int) (l : List (Nat × Nat × Nat)) : Nat := (l.filter fun c => decide (0 < c.1 ∧ (c.1 : Int) ≤ x)).length
theorem cntE_cons (x : Int) (c : Nat × Nat × Nat) (l : List (Nat × Nat × Nat)) : cntE x (c :: l) = (if ((c.1 + c.2.1 : Nat) : Int) ≤ x then 1 else 0) + cntE x l := by
  unfold cntE
  rw [List.filter_cons]
  by_cases h : ((c.1 + c.2.1 : Nat) : Int) ≤ x
  · rw [if_pos (decide_eq_true h), if_pos h, List.length_cons]; omega
  · rw [if_neg (by simp only [decide_eq_true_eq]; exact h), if_neg h]; omega
theorem cntA_cons (x : Int) (c : Nat × Nat × Nat) (l : List (Nat × Nat × Nat)) : cntA x (c :: l) = (if 0 < c.1 ∧ (c.1 : Int) ≤ x then 1 else 0) + cntA x l := by
  unfold cntA
  rw [List.filter_cons]
  by_cases h : 0 < c.1 ∧ (c.1 : Int) ≤ x
  · rw [if_pos (decide_eq_true h), if_pos h, List.length_cons]; omega
  · rw [if_neg (by simp only [decide_eq_true_eq]; exact h), if_neg h]; omega
theorem cnt_suffix (t : List UInt8) (x : Int) : ∀ (n p : Nat), t.length - p = n → p < t.length → cntE x (charsFrom t p) = cntA x (charsFrom t (p + (dec t p).2)) + (if (t.length : Int) ≤ x then 1 else 0) := by
  intro n
  induction n using Nat.strongRecOn with
  | _ n ih =>
    intro p hn hp
    have h1 := dec_pos t p
    have h2 := dec_fits t p hp
    rw [charsFrom_step hp, cntE_cons]
    simp only
    by_cases hq : p + (dec t p).2 < t.length
    · rw [ih _ (by omega) (p + (dec t p).2) rfl hq]
      conv => rhs; rw [charsFrom_step hq, cntA_cons]
      simp only
      have e : (0 < p + (dec t p).2 ∧ ((p + (dec t p).2 : Nat) : Int) ≤ x) ↔ ((p + (dec t p).2 : Nat) : Int) ≤ x := ⟨fun h => h.2, fun h => ⟨by omega, h⟩⟩
      by_cases q : ((p + (dec t p).2 : Nat) : Int) ≤ x
      · rw [if_pos q, if_pos (e.2 q)]; omega
      · rw [if_neg q, if_neg (fun h => q (e.1 h))]; omega
    · have e : p + (dec t p).2 = t.length := by omega
      rw [e, charsFrom_end (Nat.le_refl _)]
      simp [cntE, cntA]
theorem cntE_eq (t : List UInt8) (x : Int) : cntE x (charsFrom t 0) = cntA x (charsFrom t 0) + (if 0 < t.length ∧ (t.length : Int) ≤ x then 1 else 0) := by
  by_cases h : 0 < t.length
  · rw [cnt_suffix t x _ 0 rfl h]
    conv => rhs; rw [charsFrom_step h, cntA_cons]
    simp [h]
  · rw [charsFrom_end (by omega)]; simp [cntE, cntA, h]
def whereF (s : List UInt8) (b : Int) : Int × Int :=
  if b < 0 ∨ (s.length : Int) < b then (0, 0) else
  (((lixF s b (endsF s).length + 1 : Nat) : Int), ((1 + cntE (b - fromAt s (lixF s b (endsF s).length)) (charsFrom (textOf s ((endsF s).getD (lixF s b (endsF s).length) (0, 0, 0))) 0) : Nat) : Int))
theorem where_arg {s : List UInt8} {b : Int} (h : b < 0 ∨ (s.length : Int) < b) : whereF s b = (0, 0) := by unfold whereF; rw [if_pos h]
theorem from_at {s : List UInt8} {i : Nat} {p : Nat × Nat × Nat} (h : (endsF s)[i]? = some p) : fromAt s i = p.1 := by unfold fromAt; rw [List.getD_eq_getElem?_getD, h]; rfl
theorem fromI_at {s : List UInt8} {i : Nat} {q : Int × Int × Int} (h : (pcsI s)[i]? = some q) : q.1 = (fromAt s i : Nat) := by
  obtain ⟨p, hp, rfl⟩ := pcsI_at h
  rw [from_at hp]; rfl
/-- upwards, as the reference goes -/
theorem lix_yes {s : List UInt8} {b : Int} {i : Nat} (h : i = 0 ∨ (fromAt s i : Int) ≤ b) : lixF s b (i + 1) = i := by rw [lixF, if_pos h]
theorem lix_no {s : List UInt8} {b : Int} {i : Nat} (h : i ≠ 0) (h2 : b < (fromAt s i : Int)) : lixF s b (i + 1) = lixF s b i := by rw [lixF, if_neg (by omega)]
theorem where_is {s : List UInt8} {b : Int} {i col : Nat} {p : Nat × Nat × Nat} (h0 : 0 ≤ b) (h1 : b ≤ (s.length : Nat)) (hi : lixF s b (endsF s).length = i) (hp : (endsF s)[i]? = some p) (hc : col = 1 + cntE (b - (p.1 : Nat)) (charsFrom (textOf s p) 0)) : whereF s b = (((i + 1 : Nat) : Int), (col : Int)) := by
  unfold whereF
  rw [if_neg (by omega), hi, from_at hp, List.getD_eq_getElem?_getD, hp, hc]; rfl
theorem cntE_take {x : Int} {l : List (Nat × Nat × Nat)} {k : Nat} {c : Nat × Nat × Nat} (hc : l[k]? = some c) : cntE x (l.take (k + 1)) = cntE x (l.take k) + (if ((c.1 + c.2.1 : Nat) : Int) ≤ x then 1 else 0) := by
  obtain ⟨h1, rfl⟩ := List.getElem?_eq_some_iff.1 hc
  rw [List.take_succ_eq_append_getElem h1]
  unfold cntE
  rw [List.filter_append, List.length_append, List.filter_cons, List.filter_nil]
  by_cases h : ((l[k].1 + l[k].2.1 : Nat) : Int) ≤ x
  · rw [if_pos (decide_eq_true h), if_pos h]; rfl
  · rw [if_neg (by simp only [decide_eq_true_eq]; exact h), if_neg h]; rfl
theorem cntR_yes {b : Int} {t : List UInt8} {k col f : Nat} {y : Nat × Nat × Int × Bool} (hy : (chF t)[k]? = some y) (h : ((f + y.1 + y.2.1 : Nat) : Int) ≤ b) (hi : col = 1 + cntE (b - (f : Nat)) ((charsFrom t 0).take k)) : col + 1 = 1 + cntE (b - (f : Nat)) ((charsFrom t 0).take (k + 1)) := by
  obtain ⟨c, hc, rfl⟩ := chF_at hy
  simp only [fulC] at h
  rw [cntE_take hc, if_pos (by omega), hi]; omega
theorem cntR_no {b : Int} {t : List UInt8} {k col f : Nat} {y : Nat × Nat × Int × Bool} (hy : (chF t)[k]? = some y) (h : b < ((f + y.1 + y.2.1 : Nat) : Int)) (hi : col = 1 + cntE (b - (f : Nat)) ((charsFrom t 0).take k)) : col = 1 + cntE (b - (f : Nat)) ((charsFrom t 0).take (k + 1)) := by
  obtain ⟨c, hc, rfl⟩ := chF_at hy
  simp only [fulC] at h
  rw [cntE_take hc, if_neg (by omega)]; omega
theorem cntR_end {b : Int} {t : List UInt8} {k col f : Nat} (h : (chF t).length ≤ k) (hi : col = 1 + cntE (b - (f : Nat)) ((charsFrom t 0).take k)) : col = 1 + cntE (b - (f : Nat)) (charsFrom t 0) := by
  rw [chF_len] at h
  rw [List.take_of_length_le h] at hi; exact hi
theorem whereR_is {s : List UInt8} {b : Int} {i no col k : Nat} {p : Nat × Nat × Nat} (h0 : 0 ≤ b) (h1 : b ≤ (s.length : Nat)) (ha : i ≤ (endsF s).length) (hb : (endsF s).length ≤ i) (hi : lixF s b i = no) (hp : (endsF s)[no]? = some p) (hk : (chF ((s.take p.2.1).drop p.1)).length ≤ k) (hc : col = 1 + cntE (b - (p.1 : Nat)) ((charsFrom ((s.take p.2.1).drop p.1) 0).take k)) : whereF s b = (((no + 1 : Nat) : Int), (col : Int)) := by
  obtain rfl : i = (endsF s).length := by omega
  exact where_is h0 h1 hi hp (cntR_end hk hc)
/-- downwards, as the program goes -/
theorem cntP_yes {x : Int} {t : List UInt8} {p m m0 : Nat} (h : p < t.length) (hc : 0 < p ∧ (p : Int) ≤ x) (hi : m + cntA x (charsFrom t p) = m0) : (m + 1) + cntA x (charsFrom t (p + (dec t p).2)) = m0 := by
  rw [charsFrom_step h, cntA_cons, if_pos hc] at hi; omega
theorem cntP_no {x : Int} {t : List UInt8} {p m m0 : Nat} (h : p < t.length) (hc : ¬ (0 < p ∧ (p : Int) ≤ x)) (hi : m + cntA x (charsFrom t p) = m0) : m + cntA x (charsFrom t (p + (dec t p).2)) = m0 := by
  rw [charsFrom_step h, cntA_cons, if_neg hc] at hi; omega
theorem whereI_is {s : List UInt8} {b : Int} {i col pos : Nat} {q : Int × Int × Int} (h0 : 0 ≤ b) (h1 : b ≤ (s.length : Nat)) (hi : lixF s b (i + 1) = lixF s b (pcsI s).length) (hs : i = 0 ∨ q.1 ≤ b) (hq : (pcsI s)[i]? = some q)
    (hc : col + cntA (b - q.1) (charsFrom ((s.take q.2.1.toNat).drop q.1.toNat) pos) = 1 + cntA (b - q.1) (charsFrom ((s.take q.2.1.toNat).drop q.1.toNat) 0)) (hp : ((s.take q.2.1.toNat).drop q.1.toNat).length ≤ pos) (add : Nat)
    (ha : (q.1 < q.2.1 ∧ q.2.1 ≤ b ∧ add = 1) ∨ (¬ (q.1 < q.2.1 ∧ q.2.1 ≤ b) ∧ add = 0)) : whereF s b = (((i + 1 : Nat) : Int), ((col + add : Nat) : Int)) := by
  obtain ⟨p, hp', rfl⟩ := pcsI_at hq
  obtain ⟨k1, k2, k3⟩ := ends_ok hp'
  have e1 : (toI p).1 = (p.1 : Nat) := rfl
  have e2 : (toI p).2.1 = (p.2.1 : Nat) := rfl
  rw [e1, e2] at ha hc hp
  rw [e1] at hs
  rw [Int.toNat_natCast, Int.toNat_natCast] at hc hp
  rw [charsFrom_end hp] at hc
  have hl : (textOf s p).length = p.2.1 - p.1 := by unfold textOf; simp; omega
  rw [lix_yes (by rw [from_at hp']; exact hs)] at hi
  rw [pcsI_lenE] at hi
  refine where_is h0 h1 hi.symm hp' ?_
  rw [cntE_eq]
  have hc' : col = 1 + cntA (b - (p.1 : Nat)) (charsFrom (textOf s p) 0) := by
    have : cntA (b - (p.1 : Nat)) [] = 0 := rfl
    rw [this] at hc; exact hc
  rw [hc', hl]
  by_cases hx : 0 < p.2.1 - p.1 ∧ ((p.2.1 - p.1 : Nat) : Int) ≤ b - (p.1 : Nat)
  · rw [if_pos hx]; omega
  · rw [if_neg hx]; omega
end Go.FK
