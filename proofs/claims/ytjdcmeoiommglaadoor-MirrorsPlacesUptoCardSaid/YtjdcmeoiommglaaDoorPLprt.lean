/- Plain laws of chapter 3: the line that a Line is. -/
import Derived.Test.YtjdcmeoiommglaaDoorPLlaw
import Derived.Test.YtjdcmeoiommglaaDoorFKq
import Derived.Lib.Join
set_option linter.unusedVariables false
namespace Go.FK
open Go Go.RowKit
def joinF (l : List (List UInt8)) : List UInt8 := Lib.join l [59, 32]
theorem join_snoc {l : List (List UInt8)} {i : Nat} {x : List UInt8} (h : l[i]? = some x) : joinF (l.take (i + 1)) = (if 0 < i then joinF (l.take i) ++ [59, 32] else joinF (l.take i)) ++ x := by
  unfold joinF
  cases l with
  | nil => simp at h
  | cons a r =>
    cases i with
    | zero => simp at h; subst h; rw [if_neg (by omega)]; simp [Lib.join_one, Lib.join_nil]
    | succ k =>
      rw [if_pos (by omega), List.take_succ_cons, List.take_succ_cons, Lib.join_cons, Lib.join_cons, Lib.joinTail_take_succ _ _ _ _ (by simpa using h)]
      simp [List.append_assoc]
theorem join_zero {l : List (List UInt8)} (h : l.length ≤ 0) : joinF l = [] := by
  have : l = [] := List.eq_nil_of_length_eq_zero (by omega)
  subst this; rfl
theorem joinTail_len (sep : List UInt8) (r : List (List UInt8)) : (Lib.joinTail sep r).length = Lib.lens r + sep.length * r.length := by
  unfold Lib.joinTail Lib.lens
  induction r with
  | nil => simp
  | cons a r ih => simp only [List.map_cons, List.flatten_cons, List.length_append, List.sum_cons, List.length_cons, ih, Nat.mul_succ]; omega
theorem join_len (l : List (List UInt8)) : (joinF l).length ≤ Lib.lens l + 2 * l.length := by
  unfold joinF
  cases l with
  | nil => simp [Lib.join_nil]
  | cons a r =>
    rw [Lib.join_cons, List.length_append, joinTail_len]
    simp [Lib.lens]; omega
theorem join_take_len (l : List (List UInt8)) (i : Nat) : (joinF (l.take i)).length ≤ (joinF l).length := by
  unfold joinF
  cases l with
  | nil => simp
  | cons a r =>
    cases i with
    | zero => simp [Lib.join_nil]
    | succ k =>
      have h1 := Lib.lens_take_le r k
      have h2 : (r.take k).length ≤ r.length := by simp; omega
      rw [List.take_succ_cons, Lib.join_cons, Lib.join_cons, List.length_append, List.length_append, joinTail_len, joinTail_len]
      simp only [List.length_cons, List.length_nil]
      omega
theorem join_at_len {l : List (List UInt8)} {i : Nat} {x : List UInt8} (h : l[i]? = some x) : x.length + (if 0 < i then (joinF (l.take i)).length + 2 else (joinF (l.take i)).length) ≤ (joinF l).length := by
  have h1 := join_take_len l (i + 1)
  rw [join_snoc h] at h1
  split <;> rename_i hi
  · rw [if_pos hi] at h1; simp only [List.length_append, List.length_cons, List.length_nil] at h1; omega
  · rw [if_neg hi] at h1; simp only [List.length_append] at h1; omega
theorem cell_lt {w : World} {g o : Nat} {v : Value} (h : w.cell? ⟨g, o, none⟩ = some v) : g < w.heap.size := by
  unfold World.cell? at h
  cases hb : w.heap[g]? with
  | none => simp [hb] at h
  | some ob => exact (Array.getElem?_eq_some_iff.1 hb).1
theorem joinRd_contract {P : Program} {f : FuncId} (h0 : ∀ (a : Option Addr) (c : Nat) (sep : ByteArray) (w : World), Calls P f #[.slice a 0 c, .string sep] w fun e w' => e = .returned (.string ⟨#[]⟩) ∧ w' = w)
    (h1 : ∀ (bk o c : Nat) (xs : List ByteArray) (sep : ByteArray) (w : World), (∀ (j : Nat) x, xs[j]? = some x → w.cell? ⟨bk, o + j, none⟩ = some (.string x)) → bk < w.heap.size → xs.length ≤ 140737488355328 → xs.length ≤ c → (Lib.join (xs.map (·.data.toList)) sep.data.toList).length ≤ 140737488355328 →
      Calls P f #[.slice (some ⟨bk, o, none⟩) xs.length c, .string sep] w fun e w' => e = .returned (.string ⟨(Lib.join (xs.map (·.data.toList)) sep.data.toList).toArray⟩) ∧ Below w.heap.size w w')
    (v : Value) (l : List (List UInt8)) (sep : List UInt8) (w : World) (p : Rd w encStr v l) (hcap : CapOk v) (hl : l.length ≤ 1073741824) (hj : (Lib.join l sep).length ≤ 1073741824) :
    Calls P f #[v, S sep] w (Ret fun v' w' => v' = S (Lib.join l sep) ∧ Below w.heap.size w w') := by
  obtain ⟨a, c, rfl, p⟩ := p
  have hc := hcap a l.length c rfl
  by_cases hz : l = []
  · subst hz
    refine (h0 a c ⟨sep.toArray⟩ w).mono ?_
    rintro e w' ⟨rfl, rfl⟩
    exact ⟨_, rfl, rfl, Below.refl _ _⟩
  · have hpos : 0 < l.length := List.length_pos_iff.2 hz
    rcases p with p | ⟨g, off, rfl, p⟩
    · omega
    have hm : (l.map (fun x => (⟨x.toArray⟩ : ByteArray))).map (·.data.toList) = l := by rw [List.map_map]; exact (List.map_congr_left (fun x _ => by simp)).trans (List.map_id l)
    have hcell : ∀ (j : Nat) x, (l.map (fun x => (⟨x.toArray⟩ : ByteArray)))[j]? = some x → w.cell? ⟨g, off + j, none⟩ = some (.string x) := by
      intro j x hx
      rw [List.getElem?_map] at hx
      cases hq : l[j]? with
      | none => rw [hq] at hx; cases hx
      | some y =>
        rw [hq] at hx
        obtain rfl := Option.some.inj hx
        exact p j _ (by have := flat_at encStr 1 (fun _ => rfl) l j 0 hq (by omega); simpa [encStr, S] using this)
    have hb : g < w.heap.size := by
      obtain ⟨y, hy⟩ := get_some l 0 hpos
      have := hcell 0 _ (by rw [List.getElem?_map, hy]; rfl)
      exact cell_lt this
    have hh := h1 g off c (l.map (fun x => (⟨x.toArray⟩ : ByteArray))) ⟨sep.toArray⟩ w hcell hb (by rw [List.length_map]; omega) (by rw [List.length_map]; exact hc) (by rw [hm]; show (Lib.join l sep).length ≤ _; omega)
    rw [List.length_map, hm] at hh
    refine hh.mono ?_
    rintro e w' ⟨rfl, hw⟩
    exact ⟨_, rfl, rfl, hw⟩
def tailF (f : List (List UInt8)) : List UInt8 := if 0 < f.length then [32] ++ joinF f else joinF f
theorem tail_yes {f : List (List UInt8)} (h : 0 < f.length) : [32] ++ joinF f = tailF f := (if_pos h).symm
theorem tail_no {f : List (List UInt8)} (h : f.length ≤ 0) : joinF f = tailF f := (if_neg (by omega)).symm
def missH : List UInt8 := [35, 32, 64, 109, 105, 115, 115, 105, 110, 103, 58]
def bodyF (k : Int) (m : List UInt8) (f : List (List UInt8)) : List UInt8 :=
  if k = 0 then [] else if k = 1 then joinF f else if k = 2 then ([64] ++ m ++ [58]) ++ tailF f else missH ++ tailF f
theorem body_0 {k : Int} {m : List UInt8} {f : List (List UInt8)} (h : k = 0) : [] = bodyF k m f := by unfold bodyF; rw [if_pos h]
theorem body_1 {k : Int} {m : List UInt8} {f : List (List UInt8)} (h : k = 1) : joinF f = bodyF k m f := by unfold bodyF; rw [if_neg (by omega), if_pos h]
theorem body_2 {k : Int} {m : List UInt8} {f : List (List UInt8)} {l : List UInt8} (h : k = 2) (hl : l = tailF f) : (([64] ++ m) ++ [58]) ++ l = bodyF k m f := by unfold bodyF; rw [if_neg (by omega), if_neg (by omega), if_pos h, hl]
theorem body_3 {k : Int} {m : List UInt8} {f : List (List UInt8)} {l : List UInt8} (h : k = 3) (hl : l = tailF f) : missH ++ l = bodyF k m f := by unfold bodyF; rw [if_neg (by omega), if_neg (by omega), if_neg (by omega), hl]
/-- as the reference goes -/
def headB (k : Int) (m : List UInt8) (f : List (List UInt8)) : List UInt8 := if k = 0 then [] else if k = 1 then joinF f else if k = 2 then ([64] ++ m) ++ [58] else missH
theorem body_more {k : Int} {m : List UInt8} {f : List (List UInt8)} {b : List UInt8} (h : k = 2 ∨ k = 3) (hf : 0 < f.length) (hb : b = headB k m f) : b ++ ([32] ++ joinF f) = bodyF k m f := by
  rw [hb, tail_yes hf]; unfold headB bodyF
  rcases h with rfl | rfl <;> simp
theorem body_same {k : Int} {m : List UInt8} {f : List (List UInt8)} {b : List UInt8} (h : k = 0 ∨ k = 1 ∨ f.length ≤ 0) (hb : b = headB k m f) : b = bodyF k m f := by
  rw [hb]; unfold headB bodyF
  by_cases h0 : k = 0
  · rw [if_pos h0, if_pos h0]
  · by_cases h1 : k = 1
    · rw [if_neg h0, if_neg h0, if_pos h1, if_pos h1]
    · rw [if_neg h0, if_neg h0, if_neg h1, if_neg h1]
      have : tailF f = [] := by rw [← tail_no (by omega), join_zero (by omega)]
      rw [this, List.append_nil, List.append_nil]
def writF (x : LineD) : List UInt8 :=
  let b := bodyF x.2.1 x.2.2.1 x.2.2.2.1
  if x.2.2.2.2 = [] then b else (if b = [] then b else b ++ [32]) ++ ([35, 32] ++ x.2.2.2.2)
theorem headB_len {k : Int} {m : List UInt8} {f : List (List UInt8)} : (headB k m f).length ≤ (joinF f).length + m.length + 20 := by
  unfold headB missH
  repeat' split
  all_goals first | omega | (simp only [List.length_append, List.length_cons, List.length_nil]; omega)
section
variable {no k : Int} {m t : List UInt8} {f : List (List UInt8)} {b : List UInt8}
theorem writ_none (hb : b = bodyF k m f) (h : t = []) : b = writF (no, k, m, f, t) := by unfold writF; simp only; rw [if_pos h, hb]
theorem writ_bare (hb : b = bodyF k m f) (h : t ≠ []) (h2 : b = []) : b ++ ([35, 32] ++ t) = writF (no, k, m, f, t) := by unfold writF; simp only; rw [if_neg h, ← hb, if_pos h2]
theorem writ_both (hb : b = bodyF k m f) (h : t ≠ []) (h2 : b ≠ []) : (b ++ [32]) ++ ([35, 32] ++ t) = writF (no, k, m, f, t) := by unfold writF; simp only; rw [if_neg h, ← hb, if_neg h2]
theorem tail_len : (tailF f).length ≤ (joinF f).length + 1 := by unfold tailF; split <;> simp
theorem body_len : (bodyF k m f).length ≤ (joinF f).length + m.length + 20 := by
  have := tail_len (f := f)
  unfold bodyF missH
  repeat' split
  all_goals first | omega | (simp only [List.length_append, List.length_cons, List.length_nil]; omega)
theorem writ_len : (writF (no, k, m, f, t)).length ≤ (joinF f).length + m.length + t.length + 30 := by
  have := body_len (k := k) (m := m) (f := f)
  unfold writF
  simp only
  repeat' split
  all_goals first | omega | (simp only [List.length_append, List.length_cons, List.length_nil]; omega)
end
def printF (x : LineD) : List UInt8 × Int := if ¬ (0 ≤ x.2.1 ∧ x.2.1 ≤ 3) then ([], 34) else if (scanF x.1 (writF x)).1 = x ∧ (scanF x.1 (writF x)).2 = 0 then (writF x, 0) else ([], 34)
theorem scan_no {no : Int} {s : List UInt8} (h : (scanF no s).2 = 0) : (scanF no s).1.1 = no := by
  unfold scanF at h ⊢
  by_cases h0 : (chkF s).2 ≠ 0
  · rw [if_pos h0] at h; exact absurd h h0
  · rw [if_neg h0] at h ⊢
    by_cases h1 : headF s = []
    · rw [if_pos h1]; split <;> rfl
    · rw [if_neg h1] at h ⊢
      by_cases h2 : hpB (headF s) [64] = true
      · rw [if_pos h2] at h ⊢
        by_cases h3 : (ordF s).2.2 = false ∨ nameF (ordF s).1 = false
        · rw [if_pos h3] at h; exact absurd h (by simp)
        · rw [if_neg h3]
      · rw [if_neg h2]
section
variable {no k : Int} {m t : List UInt8} {f : List (List UInt8)} {b : List UInt8}
theorem print_kind (h : ¬ (0 ≤ k ∧ k ≤ 3)) : printF (no, k, m, f, t) = ([], 34) := by unfold printF; rw [if_pos h]
theorem print_no (hb : b = writF (no, k, m, f, t)) (h : scanF no b ≠ ((no, k, m, f, t), 0)) : printF (no, k, m, f, t) = ([], 34) := by
  unfold printF; subst hb; split
  · rfl
  · rw [if_neg (fun e => h (Prod.ext e.1 e.2))]
theorem print_yes (hk : 0 ≤ k ∧ k ≤ 3) (hb : b = writF (no, k, m, f, t)) (h : scanF no b = ((no, k, m, f, t), 0)) : printF (no, k, m, f, t) = (b, 0) := by
  unfold printF; subst hb; rw [if_neg (by simpa using hk), if_pos ⟨congrArg Prod.fst h, congrArg Prod.snd h⟩]
theorem print_no1 (hb : b = writF (no, k, m, f, t)) (h : (scanF no b).2 ≠ 0 ∨ (scanF no b).1.2.1 ≠ k ∨ (scanF no b).1.2.2.1 ≠ m ∨ (scanF no b).1.2.2.2.2 ≠ t ∨ (scanF no b).1.2.2.2.1 ≠ f) : printF (no, k, m, f, t) = ([], 34) := by
  refine print_no hb fun e => ?_
  rw [e] at h; simp at h
theorem print_yes1 (hk : 0 ≤ k ∧ k ≤ 3) (hb : b = writF (no, k, m, f, t)) (h0 : (scanF no b).2 = 0) (h1 : (scanF no b).1.2.1 = k) (h2 : (scanF no b).1.2.2.1 = m) (h3 : (scanF no b).1.2.2.2.2 = t) (h4 : (scanF no b).1.2.2.2.1 = f) : printF (no, k, m, f, t) = (b, 0) := by
  refine print_yes hk hb ?_
  have hn := scan_no h0
  generalize scanF no b = z at h0 h1 h2 h3 h4 hn
  obtain ⟨⟨z1, z2, z3, z4, z5⟩, z6⟩ := z
  simp only at h0 h1 h2 h3 h4 hn
  subst h0 h1 h2 h3 h4 hn; rfl
theorem print_no2 (hb : b = writF (no, k, m, f, t)) (h : (scanF no b).2 ≠ 0 ∨ ¬ (scanF no b).1 = (no, k, m, f, t)) : printF (no, k, m, f, t) = ([], 34) := by
  refine print_no hb fun e => ?_
  rw [e] at h; simp at h
theorem print_yes2 (hk : 0 ≤ k ∧ k ≤ 3) (hb : b = writF (no, k, m, f, t)) (h0 : (scanF no b).2 = 0) (h1 : (scanF no b).1 = (no, k, m, f, t)) : printF (no, k, m, f, t) = (b, 0) := print_yes hk hb (Prod.ext h1 h0)
end
theorem print_cases (x : LineD) : printF x = ([], 34) ∨ (printF x = (writF x, 0) ∧ scanF x.1 (writF x) = (x, 0)) := by
  unfold printF
  split
  · exact .inl rfl
  · split
    · rename_i h; exact .inr ⟨rfl, Prod.ext h.1 h.2⟩
    · exact .inl rfl
def writtenF (x : LineD) : List UInt8 × Bool := if 0 ≤ x.2.1 ∧ x.2.1 ≤ 3 then (writF x, true) else ([], false)
section
variable {no k : Int} {m t : List UInt8} {f : List (List UInt8)} {b : List UInt8}
theorem written_no (h : ¬ (0 ≤ k ∧ k ≤ 3)) : writtenF (no, k, m, f, t) = ([], false) := by unfold writtenF; rw [if_neg h]
theorem written_yes (h : 0 ≤ k ∧ k ≤ 3) (hb : b = writF (no, k, m, f, t)) : writtenF (no, k, m, f, t) = (b, true) := by unfold writtenF; rw [if_pos h, hb]
theorem written_len (hj : (joinF f).length + m.length + t.length ≤ 1000000000) : (writtenF (no, k, m, f, t)).1.length ≤ 1000000100 := by
  unfold writtenF
  split
  · have := writ_len (no := no) (k := k) (m := m) (t := t) (f := f); simp only; omega
  · simp
theorem written_two (h : (writtenF (no, k, m, f, t)).2 = true) : (0 ≤ k ∧ k ≤ 3) ∧ (writtenF (no, k, m, f, t)).1 = writF (no, k, m, f, t) := by
  unfold writtenF at h ⊢
  split at h
  · rename_i hk; rw [if_pos hk]; exact ⟨hk, rfl⟩
  · simp at h
theorem print_w0 (h : (writtenF (no, k, m, f, t)).2 = false) : printF (no, k, m, f, t) = ([], 34) := by
  refine print_kind fun hk => ?_
  unfold writtenF at h; rw [if_pos hk] at h; simp at h
theorem print_w1 (h : (writtenF (no, k, m, f, t)).2 = true) (h2 : (scanF no (writtenF (no, k, m, f, t)).1).2 ≠ 0 ∨ ¬ (scanF no (writtenF (no, k, m, f, t)).1).1 = (no, k, m, f, t)) : printF (no, k, m, f, t) = ([], 34) :=
  print_no2 (written_two h).2 h2
theorem print_w2 (h : (writtenF (no, k, m, f, t)).2 = true) (h0 : (scanF no (writtenF (no, k, m, f, t)).1).2 = 0) (h1 : (scanF no (writtenF (no, k, m, f, t)).1).1 = (no, k, m, f, t)) : printF (no, k, m, f, t) = ((writtenF (no, k, m, f, t)).1, 0) :=
  print_yes2 (written_two h).1 (written_two h).2 h0 h1
theorem print_len (hj : (joinF f).length + m.length + t.length ≤ 1000000000) : (printF (no, k, m, f, t)).1.length ≤ 1000000100 := by
  rcases print_cases (no, k, m, f, t) with h | ⟨h, _⟩
  · rw [h]; simp
  · have := writ_len (no := no) (k := k) (m := m) (t := t) (f := f); rw [h]; simp only; omega
theorem print_err (h : (printF (no, k, m, f, t)).2 ≠ 0) : (printF (no, k, m, f, t)).2 = 34 ∧ (printF (no, k, m, f, t)).1 = [] := by
  rcases print_cases (no, k, m, f, t) with e | ⟨e, _⟩
  · rw [e]; exact ⟨rfl, rfl⟩
  · rw [e] at h; exact absurd rfl h
theorem print_back (h : (printF (no, k, m, f, t)).2 = 0) : (scanF no (printF (no, k, m, f, t)).1).2 = 0 ∧ (scanF no (printF (no, k, m, f, t)).1).1 = (no, k, m, f, t) := by
  rcases print_cases (no, k, m, f, t) with e | ⟨e, e2⟩
  · rw [e] at h; simp at h
  · rw [e]; simp only at e2 ⊢; rw [e2]; exact ⟨rfl, rfl⟩
end
/-! twin: the mark behind the fields -/
theorem cap_row {α : Type} {w : World} {B E k : Nat} {enc : α → List Value} {v : Value} {xs : List α} (h : Row w B E k enc v xs) : CapOk v := by
  intro a n c e
  rcases h.shape with ⟨_, h2⟩ | ⟨g, cap, h2, h3⟩
  · rw [h2] at e; cases e; exact Nat.le_refl _
  · rw [h2] at e; cases e; exact h3
section ops
variable {r : Option Nat} {P : Program} {n : Nat} {Q : Post} {s : Fm} {w : World} {ops : Array Oper} {rest : List Oper}
variable {d : Option Tmp} {ty : TypeId} {pos : String} {af : Array Edge}
/-- The beginning of a row, drawn out to the row again. -/
theorem L_slext {α β : Type} {X : Operand} {hi : Operand} {T E k bytes B B' E' k' : Nat} {enc : α → List Value} {enc' : β → List Value} (he : Elem P T E k bytes) (q qf : Value) (xs : List β) (ys : List α) (hq : Row w B' E' k' enc' q xs) (hf : Row w B E k enc qf ys) (hsc : SameCap qf q)
    (hX : s.ev n X = q) (hhi : ∃ kk, s.ev n hi = .int kk ys.length)
    (h : L r P n ops Q rest (s.put d qf) w) : L r P n ops Q (⟨d, .slice T X none (some hi) none, ty, pos, af, none⟩ :: rest) s w := by
  obtain ⟨kk, hhi⟩ := hhi
  rcases hsc with ⟨rfl, rfl⟩ | ⟨g, m, m', cap, rfl, rfl⟩
  · have hl : ys.length = 0 := by
      rcases hf.shape with ⟨h1, _⟩ | ⟨g, cap, h1, _⟩
      · exact h1
      · cases h1
    refine L_val (.slice none 0 0) w (by simp) ?_ h
    have hb := sliceB (P := P) (w := w) (len := 0) (cap := 0) (lo := none) (hi := some (.int kk (0 : Nat))) 0 0 rfl ⟨kk, rfl⟩ (Nat.le_refl _) (Nat.le_refl _) true
    rw [hl] at hhi
    simp only [execOp, hX, hhi, Instr.sliceAt, Instr.slice, Sem.run_bind, Sem.run_pure, Result.andThen_ok, run_underlying he.ht, Option.map_none, Option.map_some, hb, run_size he, Option.map_none]
    rfl
  · obtain ⟨hm, hc⟩ : m = ys.length ∧ m ≤ cap := by
      rcases hf.shape with ⟨_, h2⟩ | ⟨g', cap', h2, h3⟩
      · cases h2
      · cases h2; exact ⟨rfl, h3⟩
    subst hm
    have hb := sliceB (P := P) (w := w) (len := m') (cap := cap) (lo := none) (hi := some (.int kk (ys.length : Nat))) 0 ys.length rfl ⟨kk, rfl⟩ (Nat.zero_le _) hc true
    refine L_val (.slice (some ⟨g, 0, none⟩) ys.length cap) w (by simp) ?_ h
    simp only [execOp, hX, hhi, Instr.sliceAt, Instr.slice, Sem.run_bind, Sem.run_pure, Result.andThen_ok, run_underlying he.ht, Option.map_none, Option.map_some, hb, run_size he]
    have e : (if cap = 0 then some (⟨g, 0, none⟩ : Addr) else some ((⟨g, 0, none⟩ : Addr).add (0 * k))) = some ⟨g, 0, none⟩ := by
      split
      · rfl
      · rw [add_lit, Nat.zero_mul]
    simp only [Nat.sub_zero, e]
end ops
theorem snoc_at {α : Type} {f : List α} {a x : α} (h : (f ++ [a])[f.length]? = some x) : x = a := by simp at h; exact h.symm
end Go.FK
