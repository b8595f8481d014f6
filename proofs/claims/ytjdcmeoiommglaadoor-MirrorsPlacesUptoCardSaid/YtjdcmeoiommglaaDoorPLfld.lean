/- Plain functions of chapter 3: blanks cut off, fields, heads and notes. -/
import Derived.Test.YtjdcmeoiommglaaDoorPLchk
set_option linter.unusedVariables false
namespace Go.FK
open Go Go.RowKit
def isBl (c : UInt8) : Bool := [32, 9].contains c
def dropB (l : List UInt8) : List UInt8 := l.dropWhile isBl
def dropE (l : List UInt8) : List UInt8 := (l.reverse.dropWhile isBl).reverse
def trmF (l : List UInt8) : List UInt8 := dropB (dropE l)
theorem trm_lib (l : List UInt8) : Lib.trimS l [32, 9] = trmF l := rfl
theorem isBl_iff (c : UInt8) : isBl c = true ↔ (c.toNat = 32 ∨ c.toNat = 9) := by
  have h1 : c = 32 ↔ c.toNat = 32 := by rw [← UInt8.toNat_inj]; rfl
  have h2 : c = 9 ↔ c.toNat = 9 := by rw [← UInt8.toNat_inj]; rfl
  simp [isBl, h1, h2]
theorem dropWhile_snoc {α : Type} (p : α → Bool) (x : α) : ∀ l : List α, (l ++ [x]).dropWhile p = if l.dropWhile p = [] then (if p x = true then [] else [x]) else l.dropWhile p ++ [x]
  | [] => by simp [List.dropWhile]; split <;> simp_all
  | y :: l => by
    rw [List.cons_append, List.dropWhile_cons, List.dropWhile_cons]
    by_cases h : p y = true
    · rw [if_pos h, if_pos h, dropWhile_snoc p x l]
    · rw [if_neg h, if_neg h]; simp
theorem dropE_cons (c : UInt8) (l : List UInt8) : dropE (c :: l) = if dropE l = [] then (if isBl c = true then [] else [c]) else c :: dropE l := by
  unfold dropE
  rw [List.reverse_cons, dropWhile_snoc]
  by_cases h : l.reverse.dropWhile isBl = []
  · rw [if_pos h, h]
    by_cases hc : isBl c = true <;> simp [hc]
  · rw [if_neg h, if_neg (by simpa using h)]; simp
theorem dropE_snoc (c : UInt8) (l : List UInt8) (h : isBl c = true) : dropE (l ++ [c]) = dropE l := by
  unfold dropE
  rw [List.reverse_append]
  simp [h]
theorem trm_cons {c : UInt8} (l : List UInt8) (h : isBl c = true) : trmF (c :: l) = trmF l := by
  unfold trmF
  rw [dropE_cons]
  by_cases hl : dropE l = []
  · rw [if_pos hl, if_pos h, hl]
  · rw [if_neg hl]; unfold dropB; rw [List.dropWhile_cons, if_pos h]
theorem trm_snoc {c : UInt8} (l : List UInt8) (h : isBl c = true) : trmF (l ++ [c]) = trmF l := by unfold trmF; rw [dropE_snoc c l h]
theorem trm_nil : trmF [] = [] := rfl
theorem trm_left {s : List UInt8} {c : UInt8} (hc : s[0]? = some c) (h : c.toNat = 32 ∨ c.toNat = 9) : trmF (s.drop 1) = trmF s := by
  cases s with
  | nil => simp at hc
  | cons x l => obtain rfl : x = c := by simpa using hc
                exact (trm_cons l ((isBl_iff x).2 h)).symm
theorem last_snoc {s : List UInt8} {c : UInt8} (hc : s[s.length - 1]? = some c) : s = s.take (s.length - 1) ++ [c] := by
  have hlt : s.length - 1 < s.length := (List.getElem?_eq_some_iff.1 hc).1
  have := List.take_succ_eq_append_getElem hlt
  rw [show s.length - 1 + 1 = s.length by omega, List.take_length] at this
  rw [this, (List.getElem?_eq_some_iff.1 hc).2]
  simp
theorem trm_right {s : List UInt8} {c : UInt8} (hc : s[s.length - 1]? = some c) (h : c.toNat = 32 ∨ c.toNat = 9) : trmF (s.take (s.length - 1)) = trmF s := by
  conv => rhs; rw [last_snoc hc]
  exact (trm_snoc _ ((isBl_iff c).2 h)).symm
theorem dropE_keep {s : List UInt8} {c : UInt8} (hc : s[s.length - 1]? = some c) (h : isBl c = false) : dropE s = s := by
  unfold dropE
  conv => lhs; rw [last_snoc hc]
  rw [List.reverse_append]
  simp [h]
  exact (last_snoc hc).symm
theorem trm_done {s : List UInt8} (h : s = [] ∨ ∃ c d, s[0]? = some c ∧ ¬ (c.toNat = 32 ∨ c.toNat = 9) ∧ s[s.length - 1]? = some d ∧ ¬ (d.toNat = 32 ∨ d.toNat = 9)) : trmF s = s := by
  rcases h with rfl | ⟨c, d, hc, h1, hd, h2⟩
  · rfl
  · have e1 : isBl c = false := by rw [Bool.eq_false_iff]; exact fun h => h1 ((isBl_iff c).1 h)
    have e2 : isBl d = false := by rw [Bool.eq_false_iff]; exact fun h => h2 ((isBl_iff d).1 h)
    unfold trmF
    rw [dropE_keep hd e2]
    cases s with
    | nil => rfl
    | cons x l => obtain rfl : x = c := by simpa using hc
                  unfold dropB; rw [List.dropWhile_cons, e1]; simp
theorem trm_len (s : List UInt8) : (trmF s).length ≤ s.length := by
  have h1 : ∀ l : List UInt8, (dropB l).length ≤ l.length := fun l => (List.dropWhile_sublist _).length_le
  have h2 : (dropE s).length ≤ s.length := by unfold dropE; rw [List.length_reverse]; exact Nat.le_trans (List.dropWhile_sublist _).length_le (by simp)
  exact Nat.le_trans (h1 _) h2
/-! ### pieces between a byte -/
def splF (b : UInt8) : List UInt8 → List (List UInt8)
  | [] => [[]]
  | c :: l => if c = b then [] :: splF b l else match splF b l with
    | [] => [[c]]
    | p :: r => (c :: p) :: r
theorem splF_ne (b : UInt8) (l : List UInt8) : ∃ p r, splF b l = p :: r := by
  induction l with
  | nil => exact ⟨_, _, rfl⟩
  | cons c l ih =>
    obtain ⟨p, r, e⟩ := ih
    unfold splF
    split
    · exact ⟨_, _, rfl⟩
    · rw [e]; exact ⟨_, _, rfl⟩
theorem splF_run {b : UInt8} : ∀ (p l : List UInt8), b ∉ p → splF b (p ++ b :: l) = p :: splF b l
  | [], l, _ => by simp [splF]
  | c :: p, l, h => by
    rw [List.cons_append, splF, if_neg (fun e => h (by simp [e])), splF_run p l (fun e => h (List.mem_cons_of_mem _ e))]
theorem splF_one {b : UInt8} : ∀ (p : List UInt8), b ∉ p → splF b p = [p]
  | [], _ => rfl
  | c :: p, h => by
    rw [splF, if_neg (fun e => h (by simp [e])), splF_one p (fun e => h (List.mem_cons_of_mem _ e))]
def fieldsF (s : List UInt8) : List (List UInt8) := if trmF s = [] then [] else (splF 59 s).map trmF
theorem splF_trm_cons {c : UInt8} (l : List UInt8) (h : isBl c = true) : (splF 59 (c :: l)).map trmF = (splF 59 l).map trmF := by
  have hne : c ≠ 59 := by rintro rfl; exact absurd h (by decide)
  obtain ⟨p, r, e⟩ := splF_ne 59 l
  rw [splF, if_neg hne, e]
  simp [trm_cons p h]
theorem splF_snoc {b c : UInt8} (h : c ≠ b) : ∀ l : List UInt8, ∃ i z, splF b l = i ++ [z] ∧ splF b (l ++ [c]) = i ++ [z ++ [c]]
  | [] => ⟨[], [], rfl, by simp [splF, h]⟩
  | x :: l => by
    obtain ⟨i, z, h1, h2⟩ := splF_snoc h l
    rw [List.cons_append, splF, splF, h1, h2]
    by_cases hx : x = b
    · rw [if_pos hx, if_pos hx]; exact ⟨[] :: i, z, rfl, rfl⟩
    · rw [if_neg hx, if_neg hx]
      cases i with
      | nil => exact ⟨[], x :: z, rfl, rfl⟩
      | cons p i => exact ⟨(x :: p) :: i, z, rfl, rfl⟩
theorem splF_trm_snoc {c : UInt8} (h : isBl c = true) (l : List UInt8) : (splF 59 (l ++ [c])).map trmF = (splF 59 l).map trmF := by
  obtain ⟨i, z, h1, h2⟩ := splF_snoc (b := 59) (c := c) (by rintro rfl; exact absurd h (by decide)) l
  rw [h1, h2]; simp [trm_snoc z h]
theorem splF_dropB : ∀ l : List UInt8, (splF 59 (dropB l)).map trmF = (splF 59 l).map trmF ∧ trmF (dropB l) = trmF l
  | [] => ⟨rfl, rfl⟩
  | c :: l => by
    unfold dropB
    rw [List.dropWhile_cons]
    split
    · have ih := splF_dropB l
      unfold dropB at ih
      exact ⟨ih.1.trans (splF_trm_cons l (by assumption)).symm, ih.2.trans (trm_cons l (by assumption)).symm⟩
    · exact ⟨rfl, rfl⟩
theorem splF_dropE (l : List UInt8) : (splF 59 (dropE l)).map trmF = (splF 59 l).map trmF ∧ trmF (dropE l) = trmF l := by
  have key : ∀ (r l : List UInt8), l = r.reverse → (splF 59 (dropE l)).map trmF = (splF 59 l).map trmF ∧ trmF (dropE l) = trmF l := by
    intro r
    induction r with
    | nil => rintro l rfl; exact ⟨rfl, rfl⟩
    | cons c r ih =>
      rintro l rfl
      rw [List.reverse_cons]
      by_cases h : isBl c = true
      · rw [dropE_snoc c _ h]
        have := ih _ rfl
        exact ⟨this.1.trans (splF_trm_snoc h _).symm, this.2.trans (trm_snoc _ h).symm⟩
      · have : dropE (r.reverse ++ [c]) = r.reverse ++ [c] := by
          unfold dropE; rw [List.reverse_append]; simp [h]
        rw [this]; exact ⟨rfl, rfl⟩
  exact key l.reverse l (by simp)
theorem trm_trm (s : List UInt8) : trmF (trmF s) = trmF s := by
  show trmF (dropB (dropE s)) = _
  rw [(splF_dropB _).2, (splF_dropE s).2]
theorem fields_trm (s : List UInt8) : fieldsF (trmF s) = fieldsF s := by
  unfold fieldsF
  rw [trm_trm]
  split
  · rfl
  · show (splF 59 (dropB (dropE s))).map trmF = _
    rw [(splF_dropB _).1, (splF_dropE s).1]
/-! ### the first place of a byte -/
def untF (b : UInt8) (s : List UInt8) : List UInt8 × List UInt8 × Bool := (s.takeWhile (· != b), (s.dropWhile (· != b)).drop 1, s.contains b)
def noB (b : UInt8) (s : List UInt8) (f i : Nat) : Prop := ∀ j c, f ≤ j → j < i → s[j]? = some c → c ≠ b
theorem noB_zero (b : UInt8) (s : List UInt8) (f : Nat) : noB b s f f := fun j c h1 h2 => by omega
theorem noB_succ {b c : UInt8} {s : List UInt8} {f i : Nat} (h : noB b s f i) (hc : s[i]? = some c) (hne : c.toNat ≠ b.toNat) : noB b s f (i + 1) := by
  intro j d h1 h2 hd
  rcases Nat.lt_or_ge j i with h3 | h3
  · exact h j d h1 h3 hd
  · obtain rfl : j = i := by omega
    rw [hc] at hd; cases hd
    exact fun e => hne (by rw [e])
theorem noB_mem {b : UInt8} {s : List UInt8} {f i : Nat} (h : noB b s f i) : b ∉ (s.take i).drop f := by
  intro hm
  obtain ⟨j, hj⟩ := List.mem_iff_getElem?.1 hm
  rw [List.getElem?_drop, List.getElem?_take] at hj
  split at hj
  · exact h (f + j) b (by omega) (by omega) hj rfl
  · cases hj
theorem cut_at {b : UInt8} {s : List UInt8} {f i : Nat} {c : UInt8} (hf : f ≤ i) (hc : s[i]? = some c) (he : c.toNat = b.toNat) : s.drop f = (s.take i).drop f ++ b :: s.drop (i + 1) := by
  obtain rfl : c = b := UInt8.toNat_inj.1 he
  have hlt : i < s.length := (List.getElem?_eq_some_iff.1 hc).1
  conv => lhs; rw [← List.take_append_drop i s]
  rw [List.drop_append, drop_some hc]
  have : f - (s.take i).length = 0 := by rw [List.length_take]; omega
  rw [this, List.drop_zero]
theorem untF_run {b : UInt8} {p l : List UInt8} (h : b ∉ p) : untF b (p ++ b :: l) = (p, l, true) := by
  unfold untF
  have h1 : ∀ x ∈ p, (x != b) = true := fun x hx => by simp; rintro rfl; exact h hx
  rw [List.takeWhile_append_of_pos h1, List.dropWhile_append_of_pos h1]
  simp
theorem tw_all {p : UInt8 → Bool} : ∀ l : List UInt8, (∀ x ∈ l, p x = true) → l.takeWhile p = l
  | [], _ => rfl
  | c :: l, h => by rw [List.takeWhile_cons, if_pos (h c List.mem_cons_self), tw_all l (fun x hx => h x (List.mem_cons_of_mem _ hx))]
theorem untF_none {b : UInt8} {p : List UInt8} (h : b ∉ p) : untF b p = (p, [], false) := by
  unfold untF
  have h1 : ∀ x ∈ p, (x != b) = true := fun x hx => by simp; rintro rfl; exact h hx
  have e1 : p.takeWhile (· != b) = p := tw_all p h1
  have e2 : p.dropWhile (· != b) = [] := by
    have := List.takeWhile_append_dropWhile (p := (· != b)) (l := p)
    rw [e1] at this; simpa using this
  rw [e1, e2]; simp [h]
theorem unt_hit {b : UInt8} {s : List UInt8} {i : Nat} {c : UInt8} (h : noB b s 0 i) (hc : s[i]? = some c) (he : c.toNat = b.toNat) : untF b s = (s.take i, s.drop (i + 1), true) := by
  have hm := noB_mem h
  have h1 := cut_at (Nat.zero_le i) hc he
  simp only [List.drop_zero] at h1 hm
  conv => lhs; rw [h1]
  exact untF_run hm
theorem unt_none {b : UInt8} {s : List UInt8} {i : Nat} (h : noB b s 0 i) (hi : s.length ≤ i) : untF b s = (s, [], false) := by
  have hm := noB_mem h
  rw [List.take_of_length_le hi, List.drop_zero] at hm
  exact untF_none hm
theorem unt_split (b : UInt8) : ∀ s : List UInt8, (b ∉ s ∧ untF b s = (s, [], false)) ∨ ∃ p l, s = p ++ b :: l ∧ b ∉ p ∧ untF b s = (p, l, true)
  | [] => .inl ⟨by simp, rfl⟩
  | c :: s => by
    by_cases hc : c = b
    · subst hc; exact .inr ⟨[], s, rfl, by simp, untF_run (p := []) (by simp)⟩
    · rcases unt_split b s with ⟨h1, _⟩ | ⟨p, l, rfl, h2, _⟩
      · have : b ∉ c :: s := by simp only [List.mem_cons, not_or]; exact ⟨fun e => hc e.symm, h1⟩
        exact .inl ⟨this, untF_none this⟩
      · have : b ∉ c :: p := by simp only [List.mem_cons, not_or]; exact ⟨fun e => hc e.symm, h2⟩
        exact .inr ⟨c :: p, l, rfl, this, untF_run this⟩
theorem index_run {b : UInt8} : ∀ (p l : List UInt8), b ∉ p → Lib.index (p ++ b :: l) [b] = (p.length : Int)
  | [], l, _ => by simp [Lib.index, List.isPrefixOf]
  | c :: p, l, h => by
    have hc : ¬ b = c := fun e => h (by simp [e])
    have ih := index_run p l (fun e => h (List.mem_cons_of_mem _ e))
    rw [List.cons_append, Lib.index, ih]
    have : ([b].isPrefixOf (c :: (p ++ b :: l))) = false := by simp [List.isPrefixOf, hc]
    rw [this]
    have h2 : (((p.length : Int)) == -1) = false := by rw [beq_eq_false_iff_ne]; omega
    rw [h2]; simp
theorem index_none {b : UInt8} : ∀ (p : List UInt8), b ∉ p → Lib.index p [b] = -1
  | [], _ => by simp [Lib.index]
  | c :: p, h => by
    have hc : ¬ b = c := fun e => h (by simp [e])
    rw [Lib.index, index_none p (fun e => h (List.mem_cons_of_mem _ e))]
    have : ([b].isPrefixOf (c :: p)) = false := by simp [List.isPrefixOf, hc]
    rw [this]; simp
theorem cut_unt (b : UInt8) (s : List UInt8) : Lib.cut s [b] = untF b s := by
  rcases unt_split b s with ⟨h1, h2⟩ | ⟨p, l, rfl, h1, h2⟩
  · rw [h2]; unfold Lib.cut; rw [index_none s h1, if_neg (by omega)]
  · rw [h2]; unfold Lib.cut; rw [index_run p l h1, if_pos (by omega)]
    simp
theorem unt_len (b : UInt8) (s : List UInt8) : (untF b s).1.length ≤ s.length ∧ (untF b s).2.1.length ≤ s.length := by
  rcases unt_split b s with ⟨h1, h2⟩ | ⟨p, l, rfl, h1, h2⟩
  · rw [h2]; simp
  · rw [h2]; simp; omega
/-- fields, by the places of the semicolons. -/
theorem fld_hit {s : List UInt8} {f i : Nat} {c : UInt8} {acc : List (List UInt8)} (h : noB 59 s f i) (hf : f ≤ i) (hc : s[i]? = some c) (he : c.toNat = 59) (hi : acc ++ (splF 59 (s.drop f)).map trmF = (splF 59 s).map trmF) :
    (acc ++ [trmF ((s.take i).drop f)]) ++ (splF 59 (s.drop (i + 1))).map trmF = (splF 59 s).map trmF := by
  rw [← hi, cut_at (b := 59) hf hc he, splF_run _ _ (noB_mem h)]; simp
theorem fld_end {s : List UInt8} {f i : Nat} {acc : List (List UInt8)} (h : noB 59 s f i) (hl : s.length ≤ i) (hi : acc ++ (splF 59 (s.drop f)).map trmF = (splF 59 s).map trmF) (hne : trmF s ≠ []) : acc ++ [trmF (s.drop f)] = fieldsF s := by
  have hm := noB_mem h
  rw [List.take_of_length_le hl] at hm
  unfold fieldsF
  rw [if_neg hne, ← hi, splF_one _ hm]; rfl
theorem fields_nil {s : List UInt8} (h : trmF s = []) : fieldsF s = [] := by unfold fieldsF; rw [if_pos h]
theorem fld_more {s t : List UInt8} {acc : List (List UInt8)} (hu : (untF 59 t).2.2 = true) (hi : acc ++ (splF 59 t).map trmF = (splF 59 s).map trmF) : (acc ++ [trmF (untF 59 t).1]) ++ (splF 59 (untF 59 t).2.1).map trmF = (splF 59 s).map trmF := by
  rcases unt_split 59 t with ⟨h1, h2⟩ | ⟨p, l, rfl, h1, h2⟩
  · rw [h2] at hu; cases hu
  · rw [h2, ← hi, splF_run _ _ h1]; simp
theorem fld_last {s t : List UInt8} {acc : List (List UInt8)} (hu : (untF 59 t).2.2 = false) (hi : acc ++ (splF 59 t).map trmF = (splF 59 s).map trmF) (hne : trmF s ≠ []) : acc ++ [trmF (untF 59 t).1] = fieldsF s := by
  rcases unt_split 59 t with ⟨h1, h2⟩ | ⟨p, l, rfl, h1, h2⟩
  · rw [h2]; unfold fieldsF; rw [if_neg hne, ← hi, splF_one _ h1]; rfl
  · rw [h2] at hu; cases hu
theorem unt_more {b : UInt8} {t : List UInt8} (hu : (untF b t).2.2 = true) : (untF b t).2.1.length < t.length := by
  rcases unt_split b t with ⟨h1, h2⟩ | ⟨p, l, rfl, h1, h2⟩
  · rw [h2] at hu; cases hu
  · rw [h2]; simp; omega
theorem cutl_len (s sep : List UInt8) : (Lib.cut s sep).1.length ≤ s.length ∧ (Lib.cut s sep).2.1.length ≤ s.length := by
  unfold Lib.cut
  split
  · simp only [List.length_take, List.length_drop]; omega
  · simp
theorem cut_some {s sep : List UInt8} (h : 0 ≤ Lib.index s sep) : Lib.cut s sep = (s.take (Lib.index s sep).toNat, s.drop (Lib.index s sep + (sep.length : Nat)).toNat, true) := by
  unfold Lib.cut; rw [if_pos h]
  rw [show (Lib.index s sep + (sep.length : Nat)).toNat = (Lib.index s sep).toNat + sep.length by omega]
theorem cut_none {s sep : List UInt8} (h : Lib.index s sep < 0) : Lib.cut s sep = (s, [], false) := by
  unfold Lib.cut; rw [if_neg (by omega)]
theorem ixl_range (s sep : List UInt8) : -1 ≤ Lib.index s sep ∧ (0 ≤ Lib.index s sep → Lib.index s sep + (sep.length : Nat) ≤ s.length) := by
  refine ⟨Lib.index_ge s sep, ?_⟩
  induction s with
  | nil =>
    rw [Lib.index]
    split
    · rename_i h; intro _; rw [List.isEmpty_iff.1 h]; simp
    · intro h; omega
  | cons b l ih =>
    rw [Lib.index]
    split
    · rename_i h; intro _
      have := (List.isPrefixOf_iff_prefix.1 h).length_le
      omega
    · split
      · intro h; omega
      · rename_i h2; intro h
        have h3 : Lib.index l sep ≠ -1 := by simpa using h2
        have h4 := Lib.index_ge l sep
        have := ih (by omega)
        rw [List.length_cons]; omega
/-! ### a line's fields and note -/
def cutF (s : List UInt8) : List (List UInt8) × List UInt8 := (fieldsF (Lib.cut s [35]).1, trmF (Lib.cut s [35]).2.1)
theorem cutF_unt (s : List UInt8) : cutF s = (fieldsF (trmF (untF 35 s).1), trmF (untF 35 s).2.1) := by unfold cutF; rw [cut_unt, fields_trm]
/-! ### names -/
def nmB (c : UInt8) : Bool := decide ((65 ≤ c.toNat ∧ c.toNat ≤ 90) ∨ (97 ≤ c.toNat ∧ c.toNat ≤ 122) ∨ (48 ≤ c.toNat ∧ c.toNat ≤ 57) ∨ c.toNat = 95 ∨ c.toNat = 45)
def nameF (s : List UInt8) : Bool := s.all nmB && decide (s ≠ [])
theorem dec_low {s : List UInt8} {p : Nat} {c : UInt8} (hc : s[p]? = some c) (h : c.toNat < 128) : dec s p = (c.toNat, 1) := by
  rw [dec_at', show s.getD p 0 = c by simp [List.getD, hc]]
  unfold Lib.decodeN; rw [if_pos h]
theorem dec_high {s : List UInt8} {p : Nat} {c : UInt8} (hc : s[p]? = some c) (h : 128 ≤ c.toNat) : 128 ≤ (dec s p).1 := by
  rw [dec_at', show s.getD p 0 = c by simp [List.getD, hc]]
  unfold Lib.decodeN
  rw [if_neg (by omega)]
  repeat' split
  all_goals simp only; omega
theorem nm_on {s : List UInt8} {p : Nat} (h : p < s.length) (hr : (65 ≤ (dec s p).1 ∧ (dec s p).1 ≤ 90) ∨ (97 ≤ (dec s p).1 ∧ (dec s p).1 ≤ 122) ∨ (48 ≤ (dec s p).1 ∧ (dec s p).1 ≤ 57) ∨ (dec s p).1 = 95 ∨ (dec s p).1 = 45)
    (hi : (s.drop p).all nmB = s.all nmB) : (s.drop (p + (dec s p).2)).all nmB = s.all nmB := by
  obtain ⟨c, hc⟩ := get_some s p h
  by_cases h8 : c.toNat < 128
  · have e := dec_low hc h8
    rw [e] at hr ⊢
    rw [← hi, drop_some hc, List.all_cons]
    have : nmB c = true := by simpa [nmB] using hr
    rw [this]; simp
  · have := dec_high hc (by omega); omega
theorem nm_off {s : List UInt8} {p : Nat} (h : p < s.length) (hr : ¬ ((65 ≤ (dec s p).1 ∧ (dec s p).1 ≤ 90) ∨ (97 ≤ (dec s p).1 ∧ (dec s p).1 ≤ 122) ∨ (48 ≤ (dec s p).1 ∧ (dec s p).1 ≤ 57) ∨ (dec s p).1 = 95 ∨ (dec s p).1 = 45))
    (hi : (s.drop p).all nmB = s.all nmB) : nameF s = false := by
  obtain ⟨c, hc⟩ := get_some s p h
  have : nmB c = false := by
    by_cases h8 : c.toNat < 128
    · have e := dec_low hc h8
      rw [e] at hr
      simpa [nmB] using hr
    · simp [nmB]; omega
  unfold nameF
  rw [← hi, drop_some hc, List.all_cons, this]; rfl
theorem nm_end {s : List UInt8} {p : Nat} (h : s.length ≤ p) (hi : (s.drop p).all nmB = s.all nmB) : nameF s = decide (s ≠ []) := by
  rw [List.drop_eq_nil_of_le h] at hi
  unfold nameF; rw [← hi]; rfl
/-! ### what a line is -/
abbrev LineD := Int × Int × List UInt8 × List (List UInt8) × List UInt8
def missT : List UInt8 := [64, 109, 105, 115, 115, 105, 110, 103, 58]
def zeroL : LineD := (0, 0, [], [], [])
def headF (s : List UInt8) : List UInt8 := trmF (Lib.cut s [35]).1
def noteF (s : List UInt8) : List UInt8 := trmF (Lib.cut s [35]).2.1
theorem cutF_len (s : List UInt8) : (cutF s).2.length ≤ s.length := Nat.le_trans (trm_len _) (cutl_len s [35]).2
theorem headF_unt (s : List UInt8) : headF s = trmF (untF 35 s).1 := by unfold headF; rw [cut_unt]
theorem noteF_unt (s : List UInt8) : noteF s = trmF (untF 35 s).2.1 := by unfold noteF; rw [cut_unt]
theorem cutF_head (s : List UInt8) : (cutF s).1 = fieldsF (headF s) := by unfold headF; rw [fields_trm]; rfl
def ordF (s : List UInt8) : List UInt8 × List UInt8 × Bool := Lib.cut ((headF s).drop 1) [58]
def scanF (no : Int) (s : List UInt8) : LineD × Int :=
  if (chkF s).2 ≠ 0 then (zeroL, (chkF s).2) else
  if headF s = [] then (if hpB (noteF s) missT = true then ((no, 3, [], (cutF ((noteF s).drop 9)).1, (cutF ((noteF s).drop 9)).2), 0) else ((no, 0, [], [], noteF s), 0)) else
  if hpB (headF s) [64] = true then
    (if (ordF s).2.2 = false ∨ nameF (ordF s).1 = false then (zeroL, 33) else ((no, 2, (ordF s).1, fieldsF (ordF s).2.1, noteF s), 0))
  else ((no, 1, [], (cutF s).1, noteF s), 0)
theorem hp_ne {s p : List UInt8} (h : hpB s p = true) (hp : p ≠ []) : s ≠ [] := by
  rintro rfl; cases p <;> simp [hpB] at *
theorem hp_len {s p : List UInt8} (h : hpB s p = true) : p.length ≤ s.length := by
  unfold hpB at h
  exact (List.isPrefixOf_iff_prefix.1 h).length_le
theorem scan_bad {no : Int} {s : List UInt8} (h : (chkF s).2 ≠ 0) : scanF no s = (zeroL, (chkF s).2) := by unfold scanF; rw [if_pos h]
theorem scan_miss {no : Int} {s : List UInt8} (h : (chkF s).2 = 0) (h1 : headF s = []) (h2 : hpB (noteF s) missT = true) : scanF no s = ((no, 3, [], (cutF ((noteF s).drop 9)).1, (cutF ((noteF s).drop 9)).2), 0) := by
  unfold scanF; rw [if_neg (by omega), if_pos h1, if_pos h2]
theorem cut_empty {s : List UInt8} (h : headF s = []) : (cutF s).1 = [] := by rw [cutF_head, h]; rfl
theorem scan_blank {no : Int} {s : List UInt8} (h : (chkF s).2 = 0) (h1 : headF s = []) (h2 : hpB (noteF s) missT = false) : scanF no s = ((no, 0, [], (cutF s).1, noteF s), 0) := by
  rw [cut_empty h1]; unfold scanF; rw [if_neg (by omega), if_pos h1, if_neg (by rw [h2]; decide)]
theorem scan_order {no : Int} {s : List UInt8} (h : (chkF s).2 = 0) (h2 : hpB (headF s) [64] = true) (h3 : (ordF s).2.2 = true) (h4 : nameF (ordF s).1 = true) :
    scanF no s = ((no, 2, (ordF s).1, fieldsF (ordF s).2.1, noteF s), 0) := by
  unfold scanF; rw [if_neg (by omega), if_neg (hp_ne h2 (by decide)), if_pos h2, if_neg (by rw [h3, h4]; decide)]
theorem scan_unnamed {no : Int} {s : List UInt8} (h : (chkF s).2 = 0) (h2 : hpB (headF s) [64] = true) (h3 : (ordF s).2.2 = false ∨ nameF (ordF s).1 = false) : scanF no s = (zeroL, 33) := by
  unfold scanF; rw [if_neg (by omega), if_neg (hp_ne h2 (by decide)), if_pos h2, if_pos h3]
theorem scan_data {no : Int} {s : List UInt8} (h : (chkF s).2 = 0) (h1 : headF s ≠ []) (h2 : hpB (headF s) [64] = false) : scanF no s = ((no, 1, [], (cutF s).1, noteF s), 0) := by
  unfold scanF; rw [if_neg (by omega), if_neg h1, if_neg (by rw [h2]; decide)]
theorem scan_err (no : Int) (s : List UInt8) : 0 ≤ (scanF no s).2 ∧ (scanF no s).2 ≤ 33 := by
  have := chkF_range s
  unfold scanF
  repeat' split
  all_goals first | exact ⟨this.2.1, by simp only; omega⟩ | exact ⟨by simp, by simp⟩
end Go.FK
