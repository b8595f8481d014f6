/- Joined by my program pack2.py out of my own texts: PLfld PLpcs PLref PLlaw PLplc PLeach PLrds FKq PHexM PWordM PBr3 PScn PBr4 PBr5 PBr6 PLapart PBr7 PRb1 PRb2 PRb3 PUtfM PRb4 FKaq FKar Wllines Wlscan Wlread. -/
import Derived.Lib.Join
import Derived.Lib.ItoaNum
import Derived.Lib.DecodeN
import Derived.Test.YtddnhlobnembaaaGreatDoorProg
import Derived.Tactics2
import Derived.Test.YtddnhlobnembaaaGreatDoorP1
set_option linter.unusedVariables false
set_option linter.unusedSimpArgs false
/- === PLfld === -/
section
/- Plain functions of chapter 3: blanks cut off, fields, heads and notes. -/
namespace Go.FK
open Go Go.RowKit
def isBl (c : UInt8) : Bool := [32, 9].contains c
def dropB (l : List UInt8) : List UInt8 := l.dropWhile isBl
def dropE (l : List UInt8) : List UInt8 := (l.reverse.dropWhile isBl).reverse
def trmF (l : List UInt8) : List UInt8 := dropB (dropE l)
theorem isBl_iff (c : UInt8) : isBl c = true ↔ (c.toNat = 32 ∨ c.toNat = 9) := by
 have a : c = 32 ↔ c.toNat = 32 := by rw [← UInt8.toNat_inj]; rfl
 have b : c = 9 ↔ c.toNat = 9 := by rw [← UInt8.toNat_inj]; rfl
 simp [isBl, a, b]
theorem dropWhile_snoc {α : Type} (p : α → Bool) (x : α) : ∀ l : List α, (l ++ [x]).dropWhile p = if l.dropWhile p = [] then (if p x = true then [] else [x]) else l.dropWhile p ++ [x]
 | [] => by simp [List.dropWhile]; split <;> simp_all
 | y :: l => by
  rw [List.cons_append, List.dropWhile_cons, List.dropWhile_cons]
  by_cases h : p y = true
  ·rw [if_pos h, if_pos h, dropWhile_snoc p x l]
  ·rw [if_neg h, if_neg h]; simp
theorem dropE_cons (c : UInt8) (l : List UInt8) : dropE (c :: l) = if dropE l = [] then (if isBl c = true then [] else [c]) else c :: dropE l := by
 unfold dropE
 rw [List.reverse_cons, dropWhile_snoc]
 by_cases h : l.reverse.dropWhile isBl = []
 ·rw [if_pos h, h]
  by_cases hc : isBl c = true <;> simp [hc]
 ·rw [if_neg h, if_neg (by simpa using h)]; simp
theorem dropE_snoc (c : UInt8) (l : List UInt8) (h : isBl c = true) : dropE (l ++ [c]) = dropE l := by
 unfold dropE
 rw [List.reverse_append]
 simp [h]
theorem trm_cons {c : UInt8} (l : List UInt8) (h : isBl c = true) : trmF (c :: l) = trmF l := by
 unfold trmF
 rw [dropE_cons]
 by_cases hl : dropE l = []
 ·rw [if_pos hl, if_pos h, hl]
 ·rw [if_neg hl]; unfold dropB; rw [List.dropWhile_cons, if_pos h]
theorem trm_snoc {c : UInt8} (l : List UInt8) (h : isBl c = true) : trmF (l ++ [c]) = trmF l := by unfold trmF; rw [dropE_snoc c l h]
theorem trm_left {s : List UInt8} {c : UInt8} (hc : s[0]? = some c) (h : c.toNat = 32 ∨ c.toNat = 9) : trmF (s.drop 1) = trmF s := by
  cases s with
  | nil => simp at hc
  | cons x l => obtain rfl : x = c := by simpa using hc
                exact (trm_cons l ((isBl_iff x).2 h)).symm
theorem last_snoc {s : List UInt8} {c : UInt8} (hc : s[s.length - 1]? = some c) : s = s.take (s.length - 1) ++ [c] := by
 have hlt : s.length - 1 < s.length := (List.getElem?_eq_some_iff.1 hc).1
 have := List.take_succ_eq_append_getElem hlt
 rw [show s.length - 1 + 1 = s.length by omega, List.take_length] at this
 rw [this, (List.getElem?_eq_some_iff.1 hc).2]
 simp
theorem trm_right {s : List UInt8} {c : UInt8} (hc : s[s.length - 1]? = some c) (h : c.toNat = 32 ∨ c.toNat = 9) : trmF (s.take (s.length - 1)) = trmF s := by
 conv => rhs; rw [last_snoc hc]
 exact (trm_snoc _ ((isBl_iff c).2 h)).symm
theorem dropE_keep {s : List UInt8} {c : UInt8} (hc : s[s.length - 1]? = some c) (h : isBl c = false) : dropE s = s := by
 unfold dropE
 conv => lhs; rw [last_snoc hc]
 rw [List.reverse_append]
 simp [h]
 exact (last_snoc hc).symm
theorem trm_done {s : List UInt8} (h : s = [] ∨ ∃ c d, s[0]? = some c ∧ ¬ (c.toNat = 32 ∨ c.toNat = 9) ∧ s[s.length - 1]? = some d ∧ ¬ (d.toNat = 32 ∨ d.toNat = 9)) : trmF s = s := by
  rcases h with rfl | ⟨c, d, hc, h1, hd, h2⟩
  · rfl
  · have e1 : isBl c = false := by rw [Bool.eq_false_iff]; exact fun h => h1 ((isBl_iff c).1 h)
    have e2 : isBl d = false := by rw [Bool.eq_false_iff]; exact fun h => h2 ((isBl_iff d).1 h)
    unfold trmF
    rw [dropE_keep hd e2]
    cases s with
    | nil => rfl
    | cons x l => obtain rfl : x = c := by simpa using hc
                  unfold dropB; rw [List.dropWhile_cons, e1]; simp
theorem qR (s : List UInt8) : (trmF s).length ≤ s.length := by
 have a : ∀ l : List UInt8, (dropB l).length ≤ l.length := fun l => (List.dropWhile_sublist _).length_le
 have b : (dropE s).length ≤ s.length := by unfold dropE; rw [List.length_reverse]; exact Nat.le_trans (List.dropWhile_sublist _).length_le (by simp)
 exact Nat.le_trans (a _) b
def splF (b : UInt8) : List UInt8 → List (List UInt8)
  | [] => [[]]
  | c :: l => if c = b then [] :: splF b l else match splF b l with
    | [] => [[c]]
    | p :: r => (c :: p) :: r
theorem splF_ne (b : UInt8) (l : List UInt8) : ∃ p r, splF b l = p :: r := by
 induction l with
 | nil => exact ⟨_, _, rfl⟩
 | cons c l ih =>
  obtain ⟨p, r, e⟩ := ih
  unfold splF
  split
  ·exact ⟨_, _, rfl⟩
  ·rw [e]; exact ⟨_, _, rfl⟩
theorem splF_run {b : UInt8} : ∀ (p l : List UInt8), b ∉ p → splF b (p ++ b :: l) = p :: splF b l
 | [], l, _ => by simp [splF]
 | c :: p, l, h => by
  rw [List.cons_append, splF, if_neg (fun e => h (by simp [e])), splF_run p l (fun e => h (List.mem_cons_of_mem _ e))]
theorem splF_one {b : UInt8} : ∀ (p : List UInt8), b ∉ p → splF b p = [p]
 | [], _ => rfl
 | c :: p, h => by
  rw [splF, if_neg (fun e => h (by simp [e])), splF_one p (fun e => h (List.mem_cons_of_mem _ e))]
def fieldsF (s : List UInt8) : List (List UInt8) := if trmF s = [] then [] else (splF 59 s).map trmF
theorem splF_trm_cons {c : UInt8} (l : List UInt8) (h : isBl c = true) : (splF 59 (c :: l)).map trmF = (splF 59 l).map trmF := by
 have hne : c ≠ 59 := by rintro rfl; exact absurd h (by decide)
 obtain ⟨p, r, e⟩ := splF_ne 59 l
 rw [splF, if_neg hne, e]
 simp [trm_cons p h]
theorem splF_snoc {b c : UInt8} (h : c ≠ b) : ∀ l : List UInt8, ∃ i z, splF b l = i ++ [z] ∧ splF b (l ++ [c]) = i ++ [z ++ [c]]
 | [] => ⟨[], [], rfl, by simp [splF, h]⟩
 | x :: l => by
  obtain ⟨i, z, a, d⟩ := splF_snoc h l
  rw [List.cons_append, splF, splF, a, d]
  by_cases hx : x = b
  ·rw [if_pos hx, if_pos hx]; exact ⟨[] :: i, z, rfl, rfl⟩
  ·rw [if_neg hx, if_neg hx]
   cases i with
   | nil => exact ⟨[], x :: z, rfl, rfl⟩
   | cons p i => exact ⟨(x :: p) :: i, z, rfl, rfl⟩
theorem splF_trm_snoc {c : UInt8} (h : isBl c = true) (l : List UInt8) : (splF 59 (l ++ [c])).map trmF = (splF 59 l).map trmF := by
 obtain ⟨i, z, a, d⟩ := splF_snoc (b := 59) (c := c) (by rintro rfl; exact absurd h (by decide)) l
 rw [a, d]; simp [trm_snoc z h]
theorem splF_dropB : ∀ l : List UInt8, (splF 59 (dropB l)).map trmF = (splF 59 l).map trmF ∧ trmF (dropB l) = trmF l
 | [] => ⟨rfl, rfl⟩
 | c :: l => by
  unfold dropB
  rw [List.dropWhile_cons]
  split
  ·have ih := splF_dropB l
   unfold dropB at ih
   exact ⟨ih.1.trans (splF_trm_cons l (by assumption)).symm, ih.2.trans (trm_cons l (by assumption)).symm⟩
  ·exact ⟨rfl, rfl⟩
theorem splF_dropE (l : List UInt8) : (splF 59 (dropE l)).map trmF = (splF 59 l).map trmF ∧ trmF (dropE l) = trmF l := by
 have key : ∀ (r l : List UInt8), l = r.reverse → (splF 59 (dropE l)).map trmF = (splF 59 l).map trmF ∧ trmF (dropE l) = trmF l := by
  intro r
  induction r with
  | nil => rintro l rfl; exact ⟨rfl, rfl⟩
  | cons c r ih =>
   rintro l rfl
   rw [List.reverse_cons]
   by_cases h : isBl c = true
   ·rw [dropE_snoc c _ h]
    have := ih _ rfl
    exact ⟨this.1.trans (splF_trm_snoc h _).symm, this.2.trans (trm_snoc _ h).symm⟩
   ·have : dropE (r.reverse ++ [c]) = r.reverse ++ [c] := by
     unfold dropE; rw [List.reverse_append]; simp [h]
    rw [this]; exact ⟨rfl, rfl⟩
 exact key l.reverse l (by simp)
theorem trm_trm (s : List UInt8) : trmF (trmF s) = trmF s := by
 show trmF (dropB (dropE s)) = _
 rw [(splF_dropB _).2, (splF_dropE s).2]
theorem fields_trm (s : List UInt8) : fieldsF (trmF s) = fieldsF s := by
 unfold fieldsF
 rw [trm_trm]
 split
 ·rfl
 ·show (splF 59 (dropB (dropE s))).map trmF = _
  rw [(splF_dropB _).1, (splF_dropE s).1]
def untF (b : UInt8) (s : List UInt8) : List UInt8 × List UInt8 × Bool := (s.takeWhile (· != b), (s.dropWhile (· != b)).drop 1, s.contains b)
def noB (b : UInt8) (s : List UInt8) (f i : Nat) : Prop := ∀ j c, f ≤ j → j < i → s[j]? = some c → c ≠ b
theorem noB_zero (b : UInt8) (s : List UInt8) (f : Nat) : noB b s f f := fun j c h1 h2 => by omega
theorem noB_succ {b c : UInt8} {s : List UInt8} {f i : Nat} (h : noB b s f i) (hc : s[i]? = some c) (hne : c.toNat ≠ b.toNat) : noB b s f (i + 1) := by
 intro j d g k hd
 rcases Nat.lt_or_ge j i with a | a
 ·exact h j d g a hd
 ·obtain rfl : j = i := by omega
  rw [hc] at hd; cases hd
  exact fun e => hne (by rw [e])
theorem noB_mem {b : UInt8} {s : List UInt8} {f i : Nat} (h : noB b s f i) : b ∉ (s.take i).drop f := by
 intro hm
 obtain ⟨j, hj⟩ := List.mem_iff_getElem?.1 hm
 rw [List.getElem?_drop, List.getElem?_take] at hj
 split at hj
 ·exact h (f + j) b (by omega) (by omega) hj rfl
 ·cases hj
theorem cut_at {b : UInt8} {s : List UInt8} {f i : Nat} {c : UInt8} (hf : f ≤ i) (hc : s[i]? = some c) (he : c.toNat = b.toNat) : s.drop f = (s.take i).drop f ++ b :: s.drop (i + 1) := by
 obtain rfl : c = b := UInt8.toNat_inj.1 he
 have hlt : i < s.length := (List.getElem?_eq_some_iff.1 hc).1
 conv => lhs; rw [← List.take_append_drop i s]
 rw [List.drop_append, xR hc]
 have : f - (s.take i).length = 0 := by rw [List.length_take]; omega
 rw [this, List.drop_zero]
theorem untF_run {b : UInt8} {p l : List UInt8} (h : b ∉ p) : untF b (p ++ b :: l) = (p, l, true) := by
 unfold untF
 have a : ∀ x ∈ p, (x != b) = true := fun x hx => by simp; rintro rfl; exact h hx
 rw [List.takeWhile_append_of_pos a, List.dropWhile_append_of_pos a]
 simp
theorem tw_all {p : UInt8 → Bool} : ∀ l : List UInt8, (∀ x ∈ l, p x = true) → l.takeWhile p = l
 | [], _ => rfl
 | c :: l, h => by rw [List.takeWhile_cons, if_pos (h c List.mem_cons_self), tw_all l (fun x hx => h x (List.mem_cons_of_mem _ hx))]
theorem untF_none {b : UInt8} {p : List UInt8} (h : b ∉ p) : untF b p = (p, [], false) := by
 unfold untF
 have c : ∀ x ∈ p, (x != b) = true := fun x hx => by simp; rintro rfl; exact h hx
 have a : p.takeWhile (· != b) = p := tw_all p c
 have d : p.dropWhile (· != b) = [] := by
  have := List.takeWhile_append_dropWhile (p := (· != b)) (l := p)
  rw [a] at this; simpa using this
 rw [a, d]; simp [h]
theorem unt_hit {b : UInt8} {s : List UInt8} {i : Nat} {c : UInt8} (h : noB b s 0 i) (hc : s[i]? = some c) (he : c.toNat = b.toNat) : untF b s = (s.take i, s.drop (i + 1), true) := by
 have hm := noB_mem h
 have a := cut_at (Nat.zero_le i) hc he
 simp only [List.drop_zero] at a hm
 conv => lhs; rw [a]
 exact untF_run hm
theorem unt_none {b : UInt8} {s : List UInt8} {i : Nat} (h : noB b s 0 i) (hi : s.length ≤ i) : untF b s = (s, [], false) := by
 have hm := noB_mem h
 rw [List.take_of_length_le hi, List.drop_zero] at hm
 exact untF_none hm
theorem unt_split (b : UInt8) : ∀ s : List UInt8, (b ∉ s ∧ untF b s = (s, [], false)) ∨ ∃ p l, s = p ++ b :: l ∧ b ∉ p ∧ untF b s = (p, l, true)
 | [] => .inl ⟨by simp, rfl⟩
 | c :: s => by
  by_cases hc : c = b
  ·subst hc; exact .inr ⟨[], s, rfl, by simp, untF_run (p := []) (by simp)⟩
  ·rcases unt_split b s with ⟨a, _⟩ | ⟨p, l, rfl, d, _⟩
   ·have : b ∉ c :: s := by simp only [List.mem_cons, not_or]; exact ⟨fun e => hc e.symm, a⟩
    exact .inl ⟨this, untF_none this⟩
   ·have : b ∉ c :: p := by simp only [List.mem_cons, not_or]; exact ⟨fun e => hc e.symm, d⟩
    exact .inr ⟨c :: p, l, rfl, this, untF_run this⟩
theorem index_run {b : UInt8} : ∀ (p l : List UInt8), b ∉ p → Lib.index (p ++ b :: l) [b] = (p.length : Int)
 | [], l, _ => by simp [Lib.index, List.isPrefixOf]
 | c :: p, l, h => by
  have hc : ¬ b = c := fun e => h (by simp [e])
  have ih := index_run p l (fun e => h (List.mem_cons_of_mem _ e))
  rw [List.cons_append, Lib.index, ih]
  have : ([b].isPrefixOf (c :: (p ++ b :: l))) = false := by simp [List.isPrefixOf, hc]
  rw [this]
  have a : (((p.length : Int)) == -1) = false := by rw [beq_eq_false_iff_ne]; omega
  rw [a]; simp
theorem index_none {b : UInt8} : ∀ (p : List UInt8), b ∉ p → Lib.index p [b] = -1
 | [], _ => by simp [Lib.index]
 | c :: p, h => by
  have hc : ¬ b = c := fun e => h (by simp [e])
  rw [Lib.index, index_none p (fun e => h (List.mem_cons_of_mem _ e))]
  have : ([b].isPrefixOf (c :: p)) = false := by simp [List.isPrefixOf, hc]
  rw [this]; simp
theorem cut_unt (b : UInt8) (s : List UInt8) : Lib.cut s [b] = untF b s := by
 rcases unt_split b s with ⟨a, c⟩ | ⟨p, l, rfl, a, c⟩
 ·rw [c]; unfold Lib.cut; rw [index_none s a, if_neg (by omega)]
 ·rw [c]; unfold Lib.cut; rw [index_run p l a, if_pos (by omega)]
  simp
theorem unt_len (b : UInt8) (s : List UInt8) : (untF b s).1.length ≤ s.length ∧ (untF b s).2.1.length ≤ s.length := by
 rcases unt_split b s with ⟨c, a⟩ | ⟨p, l, rfl, c, a⟩
 ·rw [a]; simp
 ·rw [a]; simp; omega
theorem fld_hit {s : List UInt8} {f i : Nat} {c : UInt8} {acc : List (List UInt8)} (h : noB 59 s f i) (hf : f ≤ i) (hc : s[i]? = some c) (he : c.toNat = 59) (hi : acc ++ (splF 59 (s.drop f)).map trmF = (splF 59 s).map trmF) :
  (acc ++ [trmF ((s.take i).drop f)]) ++ (splF 59 (s.drop (i + 1))).map trmF = (splF 59 s).map trmF := by
 rw [← hi, cut_at (b := 59) hf hc he, splF_run _ _ (noB_mem h)]; simp
theorem fld_end {s : List UInt8} {f i : Nat} {acc : List (List UInt8)} (h : noB 59 s f i) (hl : s.length ≤ i) (hi : acc ++ (splF 59 (s.drop f)).map trmF = (splF 59 s).map trmF) (hne : trmF s ≠ []) : acc ++ [trmF (s.drop f)] = fieldsF s := by
 have hm := noB_mem h
 rw [List.take_of_length_le hl] at hm
 unfold fieldsF
 rw [if_neg hne, ← hi, splF_one _ hm]; rfl
theorem fields_nil {s : List UInt8} (h : trmF s = []) : fieldsF s = [] := by unfold fieldsF; rw [if_pos h]
theorem fld_more {s t : List UInt8} {acc : List (List UInt8)} (hu : (untF 59 t).2.2 = true) (hi : acc ++ (splF 59 t).map trmF = (splF 59 s).map trmF) : (acc ++ [trmF (untF 59 t).1]) ++ (splF 59 (untF 59 t).2.1).map trmF = (splF 59 s).map trmF := by
 rcases unt_split 59 t with ⟨b, a⟩ | ⟨p, l, rfl, b, a⟩
 ·rw [a] at hu; cases hu
 ·rw [a, ← hi, splF_run _ _ b]; simp
theorem fld_last {s t : List UInt8} {acc : List (List UInt8)} (hu : (untF 59 t).2.2 = false) (hi : acc ++ (splF 59 t).map trmF = (splF 59 s).map trmF) (hne : trmF s ≠ []) : acc ++ [trmF (untF 59 t).1] = fieldsF s := by
 rcases unt_split 59 t with ⟨b, a⟩ | ⟨p, l, rfl, b, a⟩
 ·rw [a]; unfold fieldsF; rw [if_neg hne, ← hi, splF_one _ b]; rfl
 ·rw [a] at hu; cases hu
theorem unt_more {b : UInt8} {t : List UInt8} (hu : (untF b t).2.2 = true) : (untF b t).2.1.length < t.length := by
 rcases unt_split b t with ⟨c, a⟩ | ⟨p, l, rfl, c, a⟩
 ·rw [a] at hu; cases hu
 ·rw [a]; simp; omega
theorem qW (s sep : List UInt8) : (Lib.cut s sep).1.length ≤ s.length ∧ (Lib.cut s sep).2.1.length ≤ s.length := by
 unfold Lib.cut
 split
 ·simp only [List.length_take, List.length_drop]; omega
 ·simp
theorem cut_some {s sep : List UInt8} (h : 0 ≤ Lib.index s sep) : Lib.cut s sep = (s.take (Lib.index s sep).toNat, s.drop (Lib.index s sep + (sep.length : Nat)).toNat, true) := by
 unfold Lib.cut; rw [if_pos h]
 rw [show (Lib.index s sep + (sep.length : Nat)).toNat = (Lib.index s sep).toNat + sep.length by omega]
theorem cut_none {s sep : List UInt8} (h : Lib.index s sep < 0) : Lib.cut s sep = (s, [], false) := by
 unfold Lib.cut; rw [if_neg (by omega)]
theorem ixl_range (s sep : List UInt8) : -1 ≤ Lib.index s sep ∧ (0 ≤ Lib.index s sep → Lib.index s sep + (sep.length : Nat) ≤ s.length) := by
 refine ⟨Lib.index_ge s sep, ?_⟩
 induction s with
 | nil =>
  rw [Lib.index]
  split
  ·rename_i h; intro _; rw [List.isEmpty_iff.1 h]; simp
  ·intro h; omega
 | cons b l ih =>
  rw [Lib.index]
  split
  ·rename_i h; intro _
   have := (List.isPrefixOf_iff_prefix.1 h).length_le
   omega
  ·split
   ·intro h; omega
   ·rename_i h2; intro h
    have c : Lib.index l sep ≠ -1 := by simpa using h2
    have a := Lib.index_ge l sep
    have := ih (by omega)
    rw [List.length_cons]; omega
def cutF (s : List UInt8) : List (List UInt8) × List UInt8 := (fieldsF (Lib.cut s [35]).1, trmF (Lib.cut s [35]).2.1)
def nmB (c : UInt8) : Bool := decide ((65 ≤ c.toNat ∧ c.toNat ≤ 90) ∨ (97 ≤ c.toNat ∧ c.toNat ≤ 122) ∨ (48 ≤ c.toNat ∧ c.toNat ≤ 57) ∨ c.toNat = 95 ∨ c.toNat = 45)
def nameF (s : List UInt8) : Bool := s.all nmB && decide (s ≠ [])
theorem dec_low {s : List UInt8} {p : Nat} {c : UInt8} (hc : s[p]? = some c) (h : c.toNat < 128) : dec s p = (c.toNat, 1) := by
 rw [dec_at', show s.getD p 0 = c by simp [List.getD, hc]]
 unfold Lib.decodeN; rw [if_pos h]
theorem dec_high {s : List UInt8} {p : Nat} {c : UInt8} (hc : s[p]? = some c) (h : 128 ≤ c.toNat) : 128 ≤ (dec s p).1 := by
 rw [dec_at', show s.getD p 0 = c by simp [List.getD, hc]]
 unfold Lib.decodeN
 rw [if_neg (by omega)]
 repeat' split
 all_goals simp only; omega
theorem vC {s : List UInt8} {p : Nat} (h : p < s.length) (hr : (65 ≤ (dec s p).1 ∧ (dec s p).1 ≤ 90) ∨ (97 ≤ (dec s p).1 ∧ (dec s p).1 ≤ 122) ∨ (48 ≤ (dec s p).1 ∧ (dec s p).1 ≤ 57) ∨ (dec s p).1 = 95 ∨ (dec s p).1 = 45)
  (hi : (s.drop p).all nmB = s.all nmB) : (s.drop (p + (dec s p).2)).all nmB = s.all nmB := by
 obtain ⟨c, hc⟩ := zV s p h
 by_cases a : c.toNat < 128
 ·have e := dec_low hc a
  rw [e] at hr ⊢
  rw [← hi, xR hc, List.all_cons]
  have : nmB c = true := by simpa [nmB] using hr
  rw [this]; simp
 ·have := dec_high hc (by omega); omega
theorem nm_off {s : List UInt8} {p : Nat} (h : p < s.length) (hr : ¬ ((65 ≤ (dec s p).1 ∧ (dec s p).1 ≤ 90) ∨ (97 ≤ (dec s p).1 ∧ (dec s p).1 ≤ 122) ∨ (48 ≤ (dec s p).1 ∧ (dec s p).1 ≤ 57) ∨ (dec s p).1 = 95 ∨ (dec s p).1 = 45))
  (hi : (s.drop p).all nmB = s.all nmB) : nameF s = false := by
 obtain ⟨c, hc⟩ := zV s p h
 have : nmB c = false := by
  by_cases a : c.toNat < 128
  ·have e := dec_low hc a
   rw [e] at hr
   simpa [nmB] using hr
  ·simp [nmB]; omega
 unfold nameF
 rw [← hi, xR hc, List.all_cons, this]; rfl
theorem nm_end {s : List UInt8} {p : Nat} (h : s.length ≤ p) (hi : (s.drop p).all nmB = s.all nmB) : nameF s = decide (s ≠ []) := by
 rw [List.drop_eq_nil_of_le h] at hi
 unfold nameF; rw [← hi]; rfl
abbrev LineD := Int × Int × List UInt8 × List (List UInt8) × List UInt8
def missT : List UInt8 := [64, 109, 105, 115, 115, 105, 110, 103, 58]
def zeroL : LineD := (0, 0, [], [], [])
def headF (s : List UInt8) : List UInt8 := trmF (Lib.cut s [35]).1
def noteF (s : List UInt8) : List UInt8 := trmF (Lib.cut s [35]).2.1
theorem cutF_len (s : List UInt8) : (cutF s).2.length ≤ s.length := Nat.le_trans (qR _) (qW s [35]).2
theorem headF_unt (s : List UInt8) : headF s = trmF (untF 35 s).1 := by unfold headF; rw [cut_unt]
theorem noteF_unt (s : List UInt8) : noteF s = trmF (untF 35 s).2.1 := by unfold noteF; rw [cut_unt]
theorem cutF_head (s : List UInt8) : (cutF s).1 = fieldsF (headF s) := by unfold headF; rw [fields_trm]; rfl
def ordF (s : List UInt8) : List UInt8 × List UInt8 × Bool := Lib.cut ((headF s).drop 1) [58]
def scanF (no : Int) (s : List UInt8) : LineD × Int :=
  if (chkF s).2 ≠ 0 then (zeroL, (chkF s).2) else
  if headF s = [] then (if hpB (noteF s) missT = true then ((no, 3, [], (cutF ((noteF s).drop 9)).1, (cutF ((noteF s).drop 9)).2), 0) else ((no, 0, [], [], noteF s), 0)) else
  if hpB (headF s) [64] = true then
    (if (ordF s).2.2 = false ∨ nameF (ordF s).1 = false then (zeroL, 33) else ((no, 2, (ordF s).1, fieldsF (ordF s).2.1, noteF s), 0))
  else ((no, 1, [], (cutF s).1, noteF s), 0)
theorem hp_ne {s p : List UInt8} (h : hpB s p = true) (hp : p ≠ []) : s ≠ [] := by
 rintro rfl; cases p <;> simp [hpB] at *
theorem hp_len {s p : List UInt8} (h : hpB s p = true) : p.length ≤ s.length := by
 unfold hpB at h
 exact (List.isPrefixOf_iff_prefix.1 h).length_le
theorem scan_bad {no : Int} {s : List UInt8} (h : (chkF s).2 ≠ 0) : scanF no s = (zeroL, (chkF s).2) := by unfold scanF; rw [if_pos h]
theorem vM {no : Int} {s : List UInt8} (h : (chkF s).2 = 0) (h1 : headF s = []) (h2 : hpB (noteF s) missT = true) : scanF no s = ((no, 3, [], (cutF ((noteF s).drop 9)).1, (cutF ((noteF s).drop 9)).2), 0) := by
 unfold scanF; rw [if_neg (by omega), if_pos h1, if_pos h2]
theorem cut_empty {s : List UInt8} (h : headF s = []) : (cutF s).1 = [] := by rw [cutF_head, h]; rfl
theorem vY {no : Int} {s : List UInt8} (h : (chkF s).2 = 0) (h1 : headF s = []) (h2 : hpB (noteF s) missT = false) : scanF no s = ((no, 0, [], (cutF s).1, noteF s), 0) := by
 rw [cut_empty h1]; unfold scanF; rw [if_neg (by omega), if_pos h1, if_neg (by rw [h2]; decide)]
theorem vX {no : Int} {s : List UInt8} (h : (chkF s).2 = 0) (h2 : hpB (headF s) [64] = true) (h3 : (ordF s).2.2 = true) (h4 : nameF (ordF s).1 = true) :
  scanF no s = ((no, 2, (ordF s).1, fieldsF (ordF s).2.1, noteF s), 0) := by
 unfold scanF; rw [if_neg (by omega), if_neg (hp_ne h2 (by decide)), if_pos h2, if_neg (by rw [h3, h4]; decide)]
theorem xU {no : Int} {s : List UInt8} (h : (chkF s).2 = 0) (h2 : hpB (headF s) [64] = true) (h3 : (ordF s).2.2 = false ∨ nameF (ordF s).1 = false) : scanF no s = (zeroL, 33) := by
 unfold scanF; rw [if_neg (by omega), if_neg (hp_ne h2 (by decide)), if_pos h2, if_pos h3]
theorem scan_data {no : Int} {s : List UInt8} (h : (chkF s).2 = 0) (h1 : headF s ≠ []) (h2 : hpB (headF s) [64] = false) : scanF no s = ((no, 1, [], (cutF s).1, noteF s), 0) := by
 unfold scanF; rw [if_neg (by omega), if_neg h1, if_neg (by rw [h2]; decide)]
theorem scan_err (no : Int) (s : List UInt8) : 0 ≤ (scanF no s).2 ∧ (scanF no s).2 ≤ 33 := by
 have := chkF_range s
 unfold scanF
 repeat' split
 all_goals first | exact ⟨this.2.1, by simp only; omega⟩ | exact ⟨by simp, by simp⟩
end Go.FK
end

/- === PLpcs === -/
section
/- Plain functions of chapter 3: the pieces of a text, and what is told of them. -/
namespace Go.FK
open Go Go.RowKit
def encPc (x : Int × Int × Int) : List Value := [.int .i64 x.1, .int .i64 x.2.1, .int .i64 x.2.2]
def markT : List UInt8 := [239, 187, 191]
def markN (s : List UInt8) : Nat := if hpB s markT = true then 3 else 0
theorem mark_len (s : List UInt8) : markN s ≤ s.length := by
 unfold markN
 split
 ·exact hp_len (p := markT) (by assumption)
 ·exact Nat.zero_le _
def crN (s : List UInt8) (a i : Nat) : Nat := if a < i ∧ s.getD (i - 1) 0 = 13 then i - 1 else i
theorem crN_le (s : List UInt8) (a i : Nat) : crN s a i ≤ i ∧ (a ≤ i → a ≤ crN s a i) := by unfold crN; split <;> omega
def pcsN (s : List UInt8) : Nat → Nat → Nat → List (Nat × Nat × Nat)
  | 0, a, _ => [(a, s.length, s.length)]
  | n + 1, a, i => if s.getD i 0 = 10 then (a, crN s a i, i + 1) :: pcsN s n (i + 1) (i + 1) else pcsN s n a (i + 1)
def pcsFrom (s : List UInt8) (a i : Nat) : List (Nat × Nat × Nat) := pcsN s (s.length - i) a i
theorem pcs_end {s : List UInt8} {a i : Nat} (h : s.length ≤ i) : pcsFrom s a i = [(a, s.length, s.length)] := by
 unfold pcsFrom; rw [show s.length - i = 0 by omega]; rfl
theorem getD_some {s : List UInt8} {i : Nat} {c : UInt8} (h : s[i]? = some c) : s.getD i 0 = c := by simp [List.getD, h]
theorem pcs_nl {s : List UInt8} {a i : Nat} {c : UInt8} (hc : s[i]? = some c) (h : c.toNat = 10) : pcsFrom s a i = (a, crN s a i, i + 1) :: pcsFrom s (i + 1) (i + 1) := by
 have hlt : i < s.length := (List.getElem?_eq_some_iff.1 hc).1
 have e : c = 10 := UInt8.toNat_inj.1 h
 unfold pcsFrom
 rw [show s.length - i = s.length - (i + 1) + 1 by omega, pcsN, getD_some hc, if_pos e]
theorem pcs_on {s : List UInt8} {a i : Nat} {c : UInt8} (hc : s[i]? = some c) (h : c.toNat ≠ 10) : pcsFrom s a i = pcsFrom s a (i + 1) := by
 have hlt : i < s.length := (List.getElem?_eq_some_iff.1 hc).1
 have e : c ≠ 10 := fun e => h (by rw [e]; rfl)
 unfold pcsFrom
 rw [show s.length - i = s.length - (i + 1) + 1 by omega, pcsN, getD_some hc, if_neg e]
theorem pcs_skip {s : List UInt8} {a k : Nat} : ∀ (n i : Nat), k - i = n → i ≤ k → k ≤ s.length → noB 10 s i k → pcsFrom s a i = pcsFrom s a k
  | 0, i, h, h1, _, _ => by obtain rfl : i = k := by omega
                            rfl
  | n + 1, i, h, h1, h2, h3 => by
    obtain ⟨c, hc⟩ := zV s i (by omega)
    rw [pcs_on hc (fun e => h3 i c (Nat.le_refl _) (by omega) hc (UInt8.toNat_inj.1 e))]
    exact pcs_skip n (i + 1) (by omega) (by omega) h2 (fun j c h4 h5 => h3 j c (by omega) h5)
def ibF (s : List UInt8) (c : Int) : Int := Lib.indexByte s c.toNat.toUInt8
theorem ib_spec (l : List UInt8) : (ibF l 10 = -1 ∧ ∀ (j : Nat) (c : UInt8), l[j]? = some c → c ≠ 10) ∨ ∃ k : Nat, ibF l 10 = k ∧ k < l.length ∧ l[k]? = some 10 ∧ ∀ (j : Nat) (c : UInt8), j < k → l[j]? = some c → c ≠ 10 := by
 show (Lib.indexByte l 10 = -1 ∧ _) ∨ ∃ k : Nat, Lib.indexByte l 10 = k ∧ _
 induction l with
 | nil => exact .inl ⟨rfl, fun j c h => by simp at h⟩
 | cons x l ih =>
  rw [Lib.indexByte]
  by_cases hx : x = 10
  ·subst hx
   exact .inr ⟨0, by simp, by simp, by simp, fun j c h => by omega⟩
  ·have hb : (x == 10) = false := by simpa using hx
   rw [hb]
   rcases ih with ⟨a, b⟩ | ⟨k, a, b, e, d⟩
   ·rw [a]
    refine .inl ⟨by simp, fun j c h => ?_⟩
    cases j with
    | zero => simp at h; subst h; exact hx
    | succ j => exact b j c (by simpa using h)
   ·rw [a]
    have hk : (((k : Nat) : Int) == -1) = false := by rw [beq_eq_false_iff_ne]; omega
    rw [hk]
    refine .inr ⟨k + 1, by simp, by simp; omega, by simpa using e, fun j c hj h => ?_⟩
    cases j with
    | zero => simp at h; subst h; exact hx
    | succ j => exact d j c (by omega) (by simpa using h)
def toI (p : Nat × Nat × Nat) : Int × Int × Int := ((p.1 : Int), (p.2.1 : Int), (p.2.2 : Int))
def pcsI (s : List UInt8) : List (Int × Int × Int) := (pcsFrom s (markN s) (markN s)).map toI
theorem pcsI_end {s : List UInt8} {a : Nat} {acc : List (Int × Int × Int)} (ha : a ≤ s.length) (hn : ibF (s.drop a) 10 < 0) (hi : acc ++ (pcsFrom s a a).map toI = pcsI s) : acc ++ [((a : Int), (s.length : Int), (s.length : Int))] = pcsI s := by
 rcases ib_spec (s.drop a) with ⟨d, b⟩ | ⟨k, d, b, f, e⟩
 ·rw [← hi, pcs_skip (s := s) (a := a) (k := s.length) _ a rfl ha (Nat.le_refl _) (fun j c h5 h6 h7 => b (j - a) c (by rw [List.getElem?_drop, show a + (j - a) = j by omega]; exact h7)), pcs_end (Nat.le_refl _)]
  rfl
 ·omega
theorem ib_at {s : List UInt8} {a : Nat} (hn : 0 ≤ ibF (s.drop a) 10) : a + (ibF (s.drop a) 10).toNat < s.length ∧ s[a + (ibF (s.drop a) 10).toNat]? = some 10 ∧ noB 10 s a (a + (ibF (s.drop a) 10).toNat) := by
 rcases ib_spec (s.drop a) with ⟨b, d⟩ | ⟨k, b, d, e, f⟩
 ·omega
 ·rw [b, Int.toNat_natCast]
  rw [List.length_drop] at d
  rw [List.getElem?_drop] at e
  refine ⟨by omega, e, fun j c h5 h6 h7 => f (j - a) c (by omega) (by rw [List.getElem?_drop, show a + (j - a) = j by omega]; exact h7)⟩
theorem pcsI_step {s : List UInt8} {a : Nat} {acc : List (Int × Int × Int)} (hn : 0 ≤ ibF (s.drop a) 10) (hi : acc ++ (pcsFrom s a a).map toI = pcsI s) :
  (acc ++ [((a : Int), ((crN s a (a + (ibF (s.drop a) 10).toNat) : Nat) : Int), (((a + (ibF (s.drop a) 10).toNat + 1 : Nat)) : Int))]) ++ (pcsFrom s (a + (ibF (s.drop a) 10).toNat + 1) (a + (ibF (s.drop a) 10).toNat + 1)).map toI = pcsI s := by
 obtain ⟨b, c, d⟩ := ib_at hn
 rw [← hi, pcs_skip (s := s) (a := a) _ a rfl (Nat.le_add_right _ _) (Nat.le_of_lt b) d, pcs_nl c rfl]
 simp [toI]
def pcOk (s : List UInt8) (p : Int × Int × Int) : Prop := 0 ≤ p.1 ∧ p.1 ≤ p.2.1 ∧ p.2.1 ≤ p.2.2 ∧ p.2.2 ≤ s.length
theorem pcs_okN (s : List UInt8) : ∀ (n a i : Nat), s.length - i = n → a ≤ i → i ≤ s.length → ∀ p ∈ pcsN s n a i, p.1 ≤ p.2.1 ∧ p.2.1 ≤ p.2.2 ∧ p.2.2 ≤ s.length
 | 0, a, i, h, h1, h2 => by
  intro p hp
  rw [pcsN] at hp
  obtain rfl := List.mem_singleton.1 hp
  exact ⟨by simp only; omega, Nat.le_refl _, Nat.le_refl _⟩
 | n + 1, a, i, h, h1, h2 => by
  intro p hp
  rw [pcsN] at hp
  split at hp
  ·have := crN_le s a i
   rcases List.mem_cons.1 hp with rfl | hp
   ·exact ⟨this.2 h1, by simp only; omega, by simp only; omega⟩
   ·exact pcs_okN s n (i + 1) (i + 1) (by omega) (Nat.le_refl _) (by omega) p hp
  ·exact pcs_okN s n a (i + 1) (by omega) (by omega) (by omega) p hp
theorem pcsI_ok {s : List UInt8} {i : Nat} {p : Int × Int × Int} (h : (pcsI s)[i]? = some p) : pcOk s p := by
 have hm := List.mem_of_getElem? h
 obtain ⟨q, hq, rfl⟩ := List.mem_map.1 hm
 have hk := mark_len s
 obtain ⟨a, b, c⟩ := pcs_okN s _ _ _ rfl (Nat.le_refl _) hk q hq
 exact ⟨by simp only [toI]; omega, by simp only [toI]; omega, by simp only [toI]; omega, by simp only [toI]; omega⟩
theorem pcsN_len (s : List UInt8) : ∀ (n a i : Nat), 1 ≤ (pcsN s n a i).length ∧ (pcsN s n a i).length ≤ n + 1
 | 0, a, i => by simp [pcsN]
 | n + 1, a, i => by
  have b := pcsN_len s n (i + 1) (i + 1)
  have c := pcsN_len s n a (i + 1)
  rw [pcsN]
  split
  ·rw [List.length_cons]; omega
  ·omega
theorem pcsI_len (s : List UInt8) : 1 ≤ (pcsI s).length ∧ (pcsI s).length ≤ s.length + 1 := by
 unfold pcsI pcsFrom
 rw [List.length_map]
 have := pcsN_len s (s.length - markN s) (markN s) (markN s)
 omega
def toldL (s : List UInt8) : Nat → List (Int × Int × Int) → List (Int × List UInt8)
  | _, [] => []
  | k, p :: l => if p.1 = p.2.2 then [] else (((k + 1 : Nat) : Int), (s.take p.2.1.toNat).drop p.1.toNat) :: toldL s (k + 1) l
def toldF (s : List UInt8) : List (Int × List UInt8) := toldL s 0 (pcsI s)
theorem told_stop {s : List UInt8} {i : Nat} {p : Int × Int × Int} {pre : List (Int × List UInt8)} (hp : (pcsI s)[i]? = some p) (h : p.1 = p.2.2) (hi : pre ++ toldL s i ((pcsI s).drop i) = toldF s) : pre = toldF s := by
 rw [xR hp, toldL, if_pos h, List.append_nil] at hi; exact hi
theorem told_end {s : List UInt8} {i : Nat} {pre : List (Int × List UInt8)} (h : (pcsI s).length ≤ i) (hi : pre ++ toldL s i ((pcsI s).drop i) = toldF s) : pre = toldF s := by
 rw [List.drop_eq_nil_of_le h, toldL, List.append_nil] at hi; exact hi
theorem told_step {s : List UInt8} {i : Nat} {p : Int × Int × Int} {pre : List (Int × List UInt8)} (hp : (pcsI s)[i]? = some p) (h : p.1 ≠ p.2.2) (hi : pre ++ toldL s i ((pcsI s).drop i) = toldF s) :
  (pre ++ [(((i + 1 : Nat) : Int), (s.take p.2.1.toNat).drop p.1.toNat)]) ++ toldL s (i + 1) ((pcsI s).drop (i + 1)) = toldF s := by
 rw [xR hp, toldL, if_neg h] at hi; rw [← hi]; simp
theorem toldL_len (s : List UInt8) : ∀ (l : List (Int × Int × Int)) (k : Nat), (toldL s k l).length ≤ l.length
 | [], _ => by simp [toldL]
 | p :: l, k => by
  rw [toldL]
  split
  ·simp
  ·simp [toldL_len s l (k + 1)]
theorem told_len (s : List UInt8) : (toldF s).length ≤ s.length + 1 := Nat.le_trans (toldL_len _ _ _) (pcsI_len s).2
theorem toldL_short (s : List UInt8) : ∀ (l : List (Int × Int × Int)) (k : Nat), ∀ x ∈ toldL s k l, x.2.length ≤ s.length ∧ (k : Int) < x.1 ∧ x.1 ≤ k + l.length
 | [], _ => by simp [toldL]
 | p :: l, k => by
  intro x hx
  rw [toldL] at hx
  split at hx
  ·simp at hx
  ·rcases List.mem_cons.1 hx with rfl | hx
   ·simp only [List.length_drop, List.length_take, List.length_cons]; omega
   ·have := toldL_short s l (k + 1) x hx
    simp only [List.length_cons]; omega
theorem told_short {s : List UInt8} {x : Int × List UInt8} (h : x ∈ toldF s) : x.2.length ≤ s.length ∧ 0 < x.1 ∧ x.1 ≤ s.length + 1 := by
 have a := toldL_short s _ _ x h
 have b := (pcsI_len s).2
 omega
theorem pre_of3 {α : Type} {pre l all : List α} {x : α} (h : (pre ++ [x]) ++ l = all) : pre ++ [x] <+: all := ⟨l, h⟩
theorem pcsZ_end {s : List UInt8} {a : Int} {acc : List (Int × Int × Int)} (h0 : 0 ≤ a) (ha : a ≤ s.length) (hn : ibF (s.drop a.toNat) 10 < 0) (hi : acc ++ (pcsFrom s a.toNat a.toNat).map toI = pcsI s) : acc ++ [(a, ((s.length : Nat) : Int), ((s.length : Nat) : Int))] = pcsI s := by
 obtain ⟨k, rfl⟩ := Int.eq_ofNat_of_zero_le h0
 exact pcsI_end (by omega) hn hi
theorem ib_range (s : List UInt8) (c : Int) : -1 ≤ ibF s c ∧ (0 ≤ ibF s c → ibF s c < s.length) := by
 refine ⟨Lib.indexByte_ge _ _, ?_⟩
 unfold ibF
 induction s with
 | nil => intro h; simp [Lib.indexByte] at h
 | cons b l ih =>
  rw [Lib.indexByte]
  split
  ·intro _; simp
  ·split
   ·intro h; omega
   ·rename_i h2; intro h
    have d : Lib.indexByte l c.toNat.toUInt8 ≠ -1 := by simpa using h2
    have a := Lib.indexByte_ge l c.toNat.toUInt8
    have := ih (by omega)
    rw [List.length_cons]; omega
theorem pcsZ_step {s : List UInt8} {a n to : Int} {acc : List (Int × Int × Int)} (h0 : 0 ≤ a) (hn : n = ibF (s.drop a.toNat) 10) (hn0 : 0 ≤ n)
  (ht : (to = a + n - 1 ∧ 0 < n ∧ ∃ c : UInt8, s[(a + n - 1).toNat]? = some c ∧ c.toNat = 13) ∨ (to = a + n ∧ (n ≤ 0 ∨ ∃ c : UInt8, s[(a + n - 1).toNat]? = some c ∧ c.toNat ≠ 13)))
  (hi : acc ++ (pcsFrom s a.toNat a.toNat).map toI = pcsI s) : (acc ++ [(a, to, a + n + 1)]) ++ (pcsFrom s (a + n + 1).toNat (a + n + 1).toNat).map toI = pcsI s := by
 obtain ⟨k, rfl⟩ := Int.eq_ofNat_of_zero_le h0
 subst hn
 have h := pcsI_step (a := k) hn0 hi
 obtain ⟨j, hj⟩ := Int.eq_ofNat_of_zero_le hn0
 simp only [Int.toNat_natCast] at hj ht ⊢
 rw [hj] at h ht ⊢
 simp only [Int.toNat_natCast] at h
 have g : ((k : Int) + (j : Int) + 1).toNat = k + j + 1 := by omega
 rw [g]
 have f : to = ((crN s k (k + j) : Nat) : Int) := by
  unfold crN
  rcases ht with ⟨rfl, d, c, hc, b⟩ | ⟨rfl, d⟩
  ·rw [show ((k : Int) + (j : Int) - 1).toNat = k + j - 1 by omega] at hc
   rw [if_pos ⟨by omega, by rw [getD_some hc]; exact UInt8.toNat_inj.1 b⟩]; omega
  ·rw [if_neg]
   ·omega
   ·rintro ⟨i, e⟩
    rcases d with d | ⟨c, hc, b⟩
    ·omega
    ·rw [show ((k : Int) + (j : Int) - 1).toNat = k + j - 1 by omega] at hc
     rw [getD_some hc] at e
     exact b (by rw [e]; rfl)
 rw [f, show ((k : Int) + (j : Int) + 1) = (((k + j + 1 : Nat)) : Int) by omega]
 exact h
def linesF (l : List (Int × List UInt8)) : List LineD := l.map fun x => (scanF x.1 x.2).1
def badL : List (Int × List UInt8) → Int × Int
  | [] => (0, 0)
  | x :: l => if (scanF x.1 x.2).2 ≠ 0 then (x.1, (scanF x.1 x.2).2) else badL l
theorem pre_mem {α : Type} {pre els : List α} {x : α} (h : pre ++ [x] <+: els) : x ∈ els := by obtain ⟨l, rfl⟩ := h; simp
end Go.FK
end

/- === PLref === -/
section
/- Plain laws of chapter 3's reference: its characters, its pieces, its cuts. -/
namespace Go.FK
open Go Go.RowKit
theorem yU {α : Type} {l : List α} {i : Nat} {x y : α} (h : l[i]? = some x) : (l.set i y)[i]? = some y := by
 obtain ⟨a, _⟩ := List.getElem?_eq_some_iff.1 h
 simp [a]
def encChar (x : Nat × Nat × Int × Bool) : List Value := [.int .i64 (x.1 : Nat), .int .i64 (x.2.1 : Nat), .int .i32 x.2.2.1, .bool x.2.2.2]
def rawC (x : Nat × Nat × Nat) : Nat × Nat × Int × Bool := (x.1, 0, (x.2.2 : Int), false)
def fulC (x : Nat × Nat × Nat) : Nat × Nat × Int × Bool := (x.1, x.2.1, (x.2.2 : Int), !wrongC x)
def chF (s : List UInt8) : List (Nat × Nat × Int × Bool) := (charsFrom s 0).map fulC
theorem chF_len (s : List UInt8) : (chF s).length = (charsFrom s 0).length := by unfold chF; rw [List.length_map]
theorem chF_at {s : List UInt8} {i : Nat} {x : Nat × Nat × Int × Bool} (h : (chF s)[i]? = some x) : ∃ c, (charsFrom s 0)[i]? = some c ∧ x = fulC c := by
 unfold chF at h
 rw [List.getElem?_map] at h
 cases hc : (charsFrom s 0)[i]? with
 | none => rw [hc] at h; cases h
 | some c => rw [hc] at h; cases h; exact ⟨c, rfl, rfl⟩
theorem charsN_next (s : List UInt8) : ∀ (n p i : Nat) (c : Nat × Nat × Nat), s.length - p ≤ n → (charsN s n p)[i]? = some c →
  c.1 + c.2.1 ≤ s.length ∧ 1 ≤ c.2.1 ∧ p ≤ c.1 ∧ c.2.2 ≤ 2147483647 ∧ (∀ d, (charsN s n p)[i + 1]? = some d → d.1 = c.1 + c.2.1) ∧ ((charsN s n p).length = i + 1 → c.1 + c.2.1 = s.length) := by
 intro n
 induction n with
 | zero => intro p i c _ h; simp [charsN] at h
 | succ n ih =>
  intro p i c hn h
  rw [charsN] at h ⊢
  by_cases hp : p < s.length
  ·rw [if_pos hp] at h ⊢
   have j := dec_pos s p
   have l := dec_fits s p hp
   have m := dec_le s p
   cases i with
   | zero =>
    simp at h; subst h
    refine ⟨l, j, Nat.le_refl _, m, ?_, ?_⟩
    ·intro d hd
     simp only [Nat.zero_add, List.getElem?_cons_succ] at hd
     cases n with
     | zero => simp [charsN] at hd
     | succ n =>
      rw [charsN] at hd
      split at hd
      ·simp at hd; subst hd; rfl
      ·simp at hd
    ·intro hl
     simp only [List.length_cons] at hl
     by_cases hq : p + (dec s p).2 < s.length
     ·cases n with
      | zero => omega
      | succ n => rw [charsN, if_pos hq] at hl; simp at hl
     ·simp only; omega
   | succ i =>
    simp only [List.getElem?_cons_succ] at h
    obtain ⟨a, b, e, f, g, k⟩ := ih _ i c (by omega) h
    refine ⟨a, b, by omega, f, ?_, ?_⟩
    ·intro d hd; simp only [List.getElem?_cons_succ] at hd; exact g d hd
    ·intro hl; simp only [List.length_cons] at hl; exact k (by omega)
  ·rw [if_neg hp] at h; simp at h
theorem chars_next {s : List UInt8} {i : Nat} {c : Nat × Nat × Nat} (h : (charsFrom s 0)[i]? = some c) :
  c.1 + c.2.1 ≤ s.length ∧ 1 ≤ c.2.1 ∧ c.2.2 ≤ 2147483647 ∧ (∀ d, (charsFrom s 0)[i + 1]? = some d → d.1 = c.1 + c.2.1) ∧ ((charsFrom s 0).length = i + 1 → c.1 + c.2.1 = s.length) := by
 obtain ⟨a, b, _, f, g, k⟩ := charsN_next s _ _ i c (Nat.le_refl _) h
 exact ⟨a, b, f, g, k⟩
theorem raw_step {s : List UInt8} {p : Nat} {acc : List (Nat × Nat × Int × Bool)} {c : Int} (h : p < s.length) (hc : c = ((dec s p).1 : Nat)) (hi : acc ++ (charsFrom s p).map rawC = (charsFrom s 0).map rawC) :
  (acc ++ [(p, 0, c, false)]) ++ (charsFrom s (p + (dec s p).2)).map rawC = (charsFrom s 0).map rawC := by
 rw [← hi, vA h, hc]; simp [rawC]
theorem raw_end {s : List UInt8} {p : Nat} {acc : List (Nat × Nat × Int × Bool)} (h : s.length ≤ p) (hi : acc ++ (charsFrom s p).map rawC = (charsFrom s 0).map rawC) : acc = ((charsFrom s 0).take 0).map fulC ++ ((charsFrom s 0).drop 0).map rawC := by
 rw [charsFrom_end h] at hi; simpa using hi
theorem mix_len {s : List UInt8} {i : Nat} {acc : List (Nat × Nat × Int × Bool)} (h : acc = ((charsFrom s 0).take i).map fulC ++ ((charsFrom s 0).drop i).map rawC) : acc.length = (charsFrom s 0).length := by
 rw [h]; simp; omega
theorem mix_at {s : List UInt8} {i j : Nat} {acc : List (Nat × Nat × Int × Bool)} {x : Nat × Nat × Int × Bool} (h : acc = ((charsFrom s 0).take i).map fulC ++ ((charsFrom s 0).drop i).map rawC) (hx : acc[j]? = some x) (hj : i ≤ j) :
  ∃ c, (charsFrom s 0)[j]? = some c ∧ x = rawC c ∧ x.1 = c.1 ∧ x.2.2.1 = (c.2.2 : Nat) := by
 have hlt : j < acc.length := (List.getElem?_eq_some_iff.1 hx).1
 rw [mix_len h] at hlt
 rw [h, List.getElem?_append_right (by simp; omega)] at hx
 rw [List.getElem?_map, List.getElem?_drop] at hx
 have e : i + (j - (((charsFrom s 0).take i).map fulC).length) = j := by simp; omega
 rw [e] at hx
 cases hc : (charsFrom s 0)[j]? with
 | none => rw [hc] at hx; cases hx
 | some c => rw [hc] at hx; cases hx; exact ⟨c, rfl, rfl, rfl, rfl⟩
theorem mix_set {s : List UInt8} {i : Nat} {acc : List (Nat × Nat × Int × Bool)} {c : Nat × Nat × Nat} {a b : Nat × Nat × Int × Bool} (h : acc = ((charsFrom s 0).take i).map fulC ++ ((charsFrom s 0).drop i).map rawC) (hc : (charsFrom s 0)[i]? = some c) (hb : b = fulC c) :
  (acc.set i a).set i b = ((charsFrom s 0).take (i + 1)).map fulC ++ ((charsFrom s 0).drop (i + 1)).map rawC := by
 have hlt : i < (charsFrom s 0).length := (List.getElem?_eq_some_iff.1 hc).1
 rw [List.set_set, h, xR hc, List.map_cons, hb]
 have e : (((charsFrom s 0).take i).map fulC).length = i := by simp; omega
 rw [List.set_append_right _ _ (by omega), e, Nat.sub_self, List.set_cons_zero, List.take_succ_eq_append_getElem hlt, (List.getElem?_eq_some_iff.1 hc).2]
 simp
theorem fulC_mk {c : Nat × Nat × Nat} {w : Nat} {r : Int} {b : Bool} (hw : w = c.2.1) (hr : r = (c.2.2 : Nat)) (hb : b = !wrongC c) : (c.1, w, r, b) = fulC c := by rw [hw, hr, hb]; rfl
theorem mix_set3 {s : List UInt8} {i e : Nat} {acc : List (Nat × Nat × Int × Bool)} {x a : Nat × Nat × Int × Bool} {b : Bool} (h : acc = ((charsFrom s 0).take i).map fulC ++ ((charsFrom s 0).drop i).map rawC) (hx : acc[i]? = some x)
  (he : (∃ y, acc[i + 1]? = some y ∧ e = y.1) ∨ (acc.length ≤ i + 1 ∧ e = s.length)) (hb : b = decide (x.2.2.1 ≠ 65533 ∨ e - x.1 = 3)) :
  (acc.set i a).set i (x.1, e - x.1, x.2.2.1, b) = ((charsFrom s 0).take (i + 1)).map fulC ++ ((charsFrom s 0).drop (i + 1)).map rawC := by
 obtain ⟨c, hc, _, g, f⟩ := mix_at h hx (Nat.le_refl _)
 obtain ⟨p, q, o, m, l⟩ := chars_next hc
 have hl := mix_len h
 have hlt : i < acc.length := (List.getElem?_eq_some_iff.1 hx).1
 have hw : e - x.1 = c.2.1 := by
  rcases he with ⟨y, hy, rfl⟩ | ⟨hy, rfl⟩
  ·obtain ⟨d, hd, _, n, _⟩ := mix_at h hy (Nat.le_succ _)
   have := m d hd
   omega
  ·have := l (by omega)
   omega
 refine mix_set h hc ?_
 rw [g]
 refine fulC_mk (by rw [← g]; exact hw) f ?_
 rw [hb, hw, f]
 unfold wrongC
 by_cases k : c.2.2 = 65533 <;> by_cases j : c.2.1 = 3 <;> simp [k, j] <;> omega
theorem mix_done {s : List UInt8} {i : Nat} {acc : List (Nat × Nat × Int × Bool)} (h : acc = ((charsFrom s 0).take i).map fulC ++ ((charsFrom s 0).drop i).map rawC) (hi : acc.length ≤ i) : acc = chF s := by
 have hl := mix_len h
 rw [h, List.take_of_length_le (by omega), List.drop_eq_nil_of_le (by omega)]; simp [chF]
theorem chF_range {s : List UInt8} {i : Nat} {x : Nat × Nat × Int × Bool} (h : (chF s)[i]? = some x) : -2147483648 ≤ x.2.2.1 ∧ x.2.2.1 ≤ 2147483647 := by
 obtain ⟨c, hc, rfl⟩ := chF_at h
 obtain ⟨_, _, a, _⟩ := chars_next hc
 simp only [fulC]; omega
theorem ck_end {s : List UInt8} {i : Nat} (h : (chF s).length ≤ i) (hi : chkL ((charsFrom s 0).drop i) i = chkF s) : (0, 0) = chkF s := by
 rw [chF_len] at h
 rw [← hi, List.drop_eq_nil_of_le h]; rfl
theorem ck_wide {s : List UInt8} {c : Nat × Nat × Nat} (hc : (charsFrom s 0)[4096]? = some c) (hi : chkL ((charsFrom s 0).drop 4096) 4096 = chkF s) : chkF s = (4096, 32) := by
 rw [← hi, xR hc]; rfl
theorem ck_wrong {s : List UInt8} {i : Nat} {c : Nat × Nat × Nat} (hc : (charsFrom s 0)[i]? = some c) (hn : i ≠ 4096) (hw : wrongC c = true) (hi : chkL ((charsFrom s 0).drop i) i = chkF s) : chkF s = (i, 30) := by
 rw [← hi, xR hc, chkL, if_neg hn, if_pos hw]
theorem ck_ctl {s : List UInt8} {i : Nat} {c : Nat × Nat × Nat} (hc : (charsFrom s 0)[i]? = some c) (hn : i ≠ 4096) (hw : wrongC c = false) (hx : (c.2.2 < 32 ∧ c.2.2 ≠ 9) ∨ c.2.2 = 127) (hi : chkL ((charsFrom s 0).drop i) i = chkF s) : chkF s = (i, 31) := by
 rw [← hi, xR hc, chkL, if_neg hn, hw, if_neg (by simp), if_pos (by simpa [ctlC] using hx)]
theorem ck_on {s : List UInt8} {i : Nat} {c : Nat × Nat × Nat} (hc : (charsFrom s 0)[i]? = some c) (hn : i ≠ 4096) (hw : wrongC c = false) (hx : ¬ ((c.2.2 < 32 ∧ c.2.2 ≠ 9) ∨ c.2.2 = 127)) (hi : chkL ((charsFrom s 0).drop i) i = chkF s) : chkL ((charsFrom s 0).drop (i + 1)) (i + 1) = chkF s := by
 rw [← hi, xR hc, chkL, if_neg hn, hw, if_neg (by simp), if_neg (by simpa [ctlC] using hx)]
theorem ck_wide2 {s : List UInt8} {i : Nat} (h : i < (chF s).length) (h4 : i = 4096) (hi : chkL ((charsFrom s 0).drop i) i = chkF s) : chkF s = (4096, 32) := by
 subst h4
 rw [chF_len] at h
 obtain ⟨c, hc⟩ := zV (charsFrom s 0) 4096 h
 exact ck_wide hc hi
theorem ck_wrongX {s : List UInt8} {i : Nat} {x : Nat × Nat × Int × Bool} (hx : (chF s)[i]? = some x) (hw : (!x.2.2.2) = true) (hn : i ≠ 4096) (hi : chkL ((charsFrom s 0).drop i) i = chkF s) : chkF s = (i, 30) := by
 obtain ⟨c, hc, rfl⟩ := chF_at hx
 exact ck_wrong hc hn (by simpa [fulC] using hw) hi
theorem ck_ctlX {s : List UInt8} {i : Nat} {x : Nat × Nat × Int × Bool} (hx : (chF s)[i]? = some x) (hw : (!x.2.2.2) = false) (hr : (x.2.2.1 < 32 ∧ x.2.2.1 ≠ 9) ∨ x.2.2.1 = 127) (hn : i ≠ 4096) (hi : chkL ((charsFrom s 0).drop i) i = chkF s) : chkF s = (i, 31) := by
 obtain ⟨c, hc, rfl⟩ := chF_at hx
 simp only [fulC] at hr
 exact ck_ctl hc hn (by simpa [fulC] using hw) (by omega) hi
theorem ck_onX {s : List UInt8} {i : Nat} {x : Nat × Nat × Int × Bool} (hx : (chF s)[i]? = some x) (hw : (!x.2.2.2) = false) (hr : ¬ ((x.2.2.1 < 32 ∧ x.2.2.1 ≠ 9) ∨ x.2.2.1 = 127)) (hn : i ≠ 4096) (hi : chkL ((charsFrom s 0).drop i) i = chkF s) : chkL ((charsFrom s 0).drop (i + 1)) (i + 1) = chkF s := by
 obtain ⟨c, hc, rfl⟩ := chF_at hx
 simp only [fulC] at hr
 exact ck_on hc hn (by simpa [fulC] using hw) (by omega) hi
def encPcN (x : Nat × Nat × Nat) : List Value := [.int .i64 (x.1 : Nat), .int .i64 (x.2.1 : Nat), .int .i64 (x.2.2 : Nat)]
def keepP (p : Nat × Nat × Nat) : Bool := decide (p.1 < p.2.2)
def pcsR (s : List UInt8) : List (Nat × Nat × Nat) := (pcsFrom s (markN s) (markN s)).filter keepP
theorem pr_nl {s : List UInt8} {a i to : Nat} {c : UInt8} {acc : List (Nat × Nat × Nat)} (ha : a ≤ i) (hc : s[i]? = some c) (h : c.toNat = 10) (ht : to = crN s a i) (hi : acc ++ (pcsFrom s a i).filter keepP = pcsR s) :
  (acc ++ [(a, to, i + 1)]) ++ (pcsFrom s (i + 1) (i + 1)).filter keepP = pcsR s := by
 rw [← hi, pcs_nl hc h, List.filter_cons, if_pos (by simp [keepP]; omega), ht]; simp
theorem pr_on {s : List UInt8} {a i : Nat} {c : UInt8} {acc : List (Nat × Nat × Nat)} (hc : s[i]? = some c) (h : c.toNat ≠ 10) (hi : acc ++ (pcsFrom s a i).filter keepP = pcsR s) : acc ++ (pcsFrom s a (i + 1)).filter keepP = pcsR s := by
 rw [← hi, pcs_on hc h]
theorem pr_last {s : List UInt8} {a i : Nat} {acc : List (Nat × Nat × Nat)} (h : s.length ≤ i) (ha : a < s.length) (hi : acc ++ (pcsFrom s a i).filter keepP = pcsR s) : acc ++ [(a, s.length, s.length)] = pcsR s := by
 rw [← hi, pcs_end h, List.filter_cons, if_pos (by simp [keepP]; omega)]; simp
theorem pr_none {s : List UInt8} {a i : Nat} {acc : List (Nat × Nat × Nat)} (h : s.length ≤ i) (ha : s.length ≤ a) (hi : acc ++ (pcsFrom s a i).filter keepP = pcsR s) : acc = pcsR s := by
 rw [← hi, pcs_end h, List.filter_cons, if_neg (by simp [keepP]; omega)]; simp
theorem cr_one {s : List UInt8} {a i : Nat} {c : UInt8} (h : a < i) (hc : s[i - 1]? = some c) (h13 : c.toNat = 13) : i - 1 = crN s a i := by
 unfold crN; rw [if_pos ⟨h, by rw [getD_some hc]; exact UInt8.toNat_inj.1 h13⟩]
theorem cr_not {s : List UInt8} {a i : Nat} {c : UInt8} (hc : s[i - 1]? = some c) (h13 : c.toNat ≠ 13) : i = crN s a i := by
 unfold crN; rw [if_neg]; rintro ⟨_, h⟩; rw [getD_some hc] at h; exact h13 (by rw [h]; rfl)
theorem cr_low {s : List UInt8} {a i : Nat} (h : i ≤ a) : i = crN s a i := by unfold crN; rw [if_neg (by omega)]
theorem mark_yes {s : List UInt8} {a b c : UInt8} (h : 3 ≤ s.length) (h0 : s[0]? = some a) (h1 : s[1]? = some b) (h2 : s[2]? = some c) (e0 : a.toNat = 239) (e1 : b.toNat = 187) (e2 : c.toNat = 191) : 3 = markN s := by
 obtain rfl : a = 239 := UInt8.toNat_inj.1 e0
 obtain rfl : b = 187 := UInt8.toNat_inj.1 e1
 obtain rfl : c = 191 := UInt8.toNat_inj.1 e2
 unfold markN hpB markT
 rcases s with _ | ⟨x, _ | ⟨y, _ | ⟨z, l⟩⟩⟩ <;> simp_all [List.isPrefixOf]
theorem mark_no {s : List UInt8} (h : s.length < 3 ∨ ∃ i c, i < 3 ∧ s[i]? = some c ∧ c.toNat ≠ [239, 187, 191].getD i 0) : 0 = markN s := by
 unfold markN
 rw [if_neg]
 intro hp
 have hl := hp_len (p := markT) hp
 simp only [markT, List.length_cons, List.length_nil] at hl
 rcases h with h | ⟨i, c, d, a, b⟩
 ·omega
 ·unfold hpB markT at hp
  rcases s with _ | ⟨x, _ | ⟨y, _ | ⟨z, l⟩⟩⟩
  ·simp [List.isPrefixOf] at hp
  ·simp [List.isPrefixOf] at hp
  ·simp [List.isPrefixOf] at hp
  ·simp only [List.isPrefixOf, Bool.and_true, Bool.and_eq_true, beq_iff_eq] at hp
   obtain ⟨rfl, rfl, rfl⟩ := hp
   rcases (by omega : i = 0 ∨ i = 1 ∨ i = 2) with rfl | rfl | rfl <;> simp at a <;> subst a <;> exact b rfl
theorem trm_first {a : List UInt8} (h : a = [] ∨ ∃ c, a[0]? = some c ∧ ¬ (c.toNat = 32 ∨ c.toNat = 9)) : a.take (a.length - 1) = [] ∨ ∃ c, (a.take (a.length - 1))[0]? = some c ∧ ¬ (c.toNat = 32 ∨ c.toNat = 9) := by
 rcases h with rfl | ⟨c, hc, hb⟩
 ·exact .inl rfl
 ·by_cases b : a.length - 1 = 0
  ·left; rw [b]; rfl
  ·right; exact ⟨c, by rw [List.getElem?_take, if_pos (by omega)]; exact hc, hb⟩
theorem wX {s : List UInt8} {i : Nat} {c : UInt8} (hc : s[i]? = some c) (hr : (65 ≤ c.toNat ∧ c.toNat ≤ 90) ∨ (97 ≤ c.toNat ∧ c.toNat ≤ 122) ∨ (48 ≤ c.toNat ∧ c.toNat ≤ 57) ∨ c.toNat = 95 ∨ c.toNat = 45)
  (hi : (s.drop i).all nmB = s.all nmB) : (s.drop (i + 1)).all nmB = s.all nmB := by
 rw [← hi, xR hc, List.all_cons]
 have : nmB c = true := by simpa [nmB] using hr
 rw [this]; simp
theorem nmb_off {s : List UInt8} {i : Nat} {c : UInt8} (hc : s[i]? = some c) (hr : ¬ ((65 ≤ c.toNat ∧ c.toNat ≤ 90) ∨ (97 ≤ c.toNat ∧ c.toNat ≤ 122) ∨ (48 ≤ c.toNat ∧ c.toNat ≤ 57) ∨ c.toNat = 95 ∨ c.toNat = 45))
  (hi : (s.drop i).all nmB = s.all nmB) : nameF s = false := by
 have : nmB c = false := by simpa [nmB] using hr
 unfold nameF
 rw [← hi, xR hc, List.all_cons, this]; rfl
theorem hp_take {s p : List UInt8} (h : s.take p.length = p) : hpB s p = true := by
 unfold hpB; rw [List.isPrefixOf_iff_prefix, ← h]; exact List.take_prefix _ _
theorem hp_not {s p : List UInt8} (h : s.length < p.length ∨ s.take p.length ≠ p) : hpB s p = false := by
 cases hb : hpB s p with
 | false => rfl
 | true =>
  have a := List.isPrefixOf_iff_prefix.1 hb
  rcases h with h | h
  ·have := a.length_le; omega
  ·exact absurd (List.prefix_iff_eq_take.1 a).symm h
theorem hp_one {s : List UInt8} {c : UInt8} (hc : s[0]? = some c) (h : c.toNat = 64) : hpB s [64] = true := by
  obtain rfl : c = 64 := UInt8.toNat_inj.1 h
  cases s with
  | nil => simp at hc
  | cons x l => obtain rfl : x = 64 := by simpa using hc
                simp [hpB, List.isPrefixOf]
theorem hp_one_not {s : List UInt8} {c : UInt8} (hc : s[0]? = some c) (h : c.toNat ≠ 64) : hpB s [64] = false := by
 cases s with
 | nil => simp at hc
 | cons x l =>
  obtain rfl : x = c := by simpa using hc
  have : x ≠ 64 := fun e => h (by rw [e]; rfl)
  simp [hpB, List.isPrefixOf]; exact fun e => this e.symm
theorem ordF_unt (s : List UInt8) : ordF s = untF 58 ((headF s).drop 1) := cut_unt 58 _
theorem uB {no : Int} {s : List UInt8} (h : (chkF s).2 = 0) (h1 : headF s = []) (h2 : hpB (noteF s) missT = false) : scanF no s = ((no, 0, [], [], noteF s), 0) := by
 rw [vY h h1 h2, cut_empty h1]
theorem scanR_data {no : Int} {s : List UInt8} (h : (chkF s).2 = 0) (h1 : headF s ≠ []) (h2 : hpB (headF s) [64] = false) : scanF no s = ((no, 1, [], fieldsF (headF s), noteF s), 0) := by
 rw [scan_data h h1 h2, cutF_head]
theorem scanR_order {no : Int} {s : List UInt8} (h : (chkF s).2 = 0) (h2 : hpB (headF s) [64] = true) (h3 : (untF 58 ((headF s).drop 1)).2.2 = true) (h4 : nameF (untF 58 ((headF s).drop 1)).1 = true) :
  scanF no s = ((no, 2, (untF 58 ((headF s).drop 1)).1, fieldsF (untF 58 ((headF s).drop 1)).2.1, noteF s), 0) := by
 rw [← ordF_unt] at *; exact vX h h2 h3 h4
theorem qX {no : Int} {s : List UInt8} (h : (chkF s).2 = 0) (h2 : hpB (headF s) [64] = true) (h3 : (untF 58 ((headF s).drop 1)).2.2 = false ∨ nameF (untF 58 ((headF s).drop 1)).1 = false) : scanF no s = (zeroL, 33) := by
 rw [← ordF_unt] at *; exact xU h h2 h3
theorem headF_len (s : List UInt8) : (headF s).length ≤ s.length := Nat.le_trans (qR _) (qW s [35]).1
theorem noteF_len (s : List UInt8) : (noteF s).length ≤ s.length := Nat.le_trans (qR _) (qW s [35]).2
end Go.FK
end

/- === PLlaw === -/
section
/- Plain laws for chapter 3's statements. -/
namespace Go.FK
open Go Go.RowKit
theorem splF_len (b : UInt8) : ∀ l : List UInt8, (splF b l).length ≤ l.length + 1
 | [] => by simp [splF]
 | c :: l => by
  have ih := splF_len b l
  rw [splF]
  split
  ·simp; omega
  ·split <;> simp_all <;> omega
theorem fields_len (s : List UInt8) : (fieldsF s).length ≤ s.length + 1 := by
 unfold fieldsF
 split
 ·simp
 ·rw [List.length_map]; exact splF_len 59 s
theorem fields_lenC (s : List UInt8) : (cutF s).1.length ≤ s.length + 1 := by
 have a := fields_len (Lib.cut s [35]).1
 have b := (qW s [35]).1
 show (fieldsF (Lib.cut s [35]).1).length ≤ _
 omega
theorem scan_flen (no : Int) (s : List UInt8) : (scanF no s).1.2.2.2.1.length ≤ s.length + 1 := by
 have f := fields_lenC s
 have c := fields_lenC ((noteF s).drop 9)
 have g := noteF_len s
 have d := fields_len (ordF s).2.1
 have a := (qW ((headF s).drop 1) [58]).2
 have e := headF_len s
 rw [List.length_drop] at c a
 have b : (ordF s).2.1.length ≤ (headF s).length - 1 := a
 unfold scanF
 repeat' split
 all_goals simp only [zeroL, List.length_nil]
 all_goals omega
end Go.FK
end

/- === PLplc === -/
section
/- Plain laws of chapter 3: places, lines and columns. -/
namespace Go.FK
open Go Go.RowKit
section ops
variable {r : Option Nat} {P : Program} {n : Nat} {Q : Post} {s : Fm} {w : World} {ops : Array Oper} {rest : List Oper}
variable {d : Option Tmp} {ty : TypeId} {pos : String} {af : Array Edge}
end ops
def endsF (s : List UInt8) : List (Nat × Nat × Nat) := pcsFrom s (markN s) (markN s)
theorem pcsI_ends (s : List UInt8) : pcsI s = (endsF s).map toI := rfl
theorem pcsR_ends (s : List UInt8) : pcsR s = (endsF s).filter keepP := rfl
theorem pcsN_shape (s : List UInt8) : ∀ (n a i : Nat), s.length - i = n → a ≤ i → i ≤ s.length → ∃ init b, pcsN s n a i = init ++ [(b, s.length, s.length)] ∧ (∀ p ∈ init, keepP p = true ∧ p.2.1 < p.2.2) ∧ (init = [] → b = a) ∧ (∀ p, init.getLast? = some p → p.2.2 = b) ∧ b ≤ s.length
 | 0, a, i, h, h1, h2 => ⟨[], a, rfl, by simp, fun _ => rfl, by simp, by omega⟩
 | n + 1, a, i, h, h1, h2 => by
  rw [pcsN]
  split
  ·obtain ⟨init, b, e, g, d, c, f⟩ := pcsN_shape s n (i + 1) (i + 1) (by omega) (Nat.le_refl _) (by omega)
   have hc := crN_le s a i
   refine ⟨(a, crN s a i, i + 1) :: init, b, by rw [e]; rfl, ?_, by simp, ?_, f⟩
   ·intro p hp
    rcases List.mem_cons.1 hp with rfl | hp
    ·exact ⟨by simp [keepP]; omega, by simp only; omega⟩
    ·exact g p hp
   ·intro p hp
    cases init with
    | nil => simp at hp; subst hp; exact (d rfl).symm
    | cons q l => rw [List.getLast?_cons_cons] at hp; exact c p hp
  ·exact pcsN_shape s n a (i + 1) (by omega) (by omega) (by omega)
theorem ends_shape (s : List UInt8) : ∃ init b, endsF s = init ++ [(b, s.length, s.length)] ∧ (∀ p ∈ init, keepP p = true ∧ p.2.1 < p.2.2) ∧ (init = [] → b = markN s) ∧ (∀ p, init.getLast? = some p → p.2.2 = b) ∧ b ≤ s.length :=
 pcsN_shape s _ _ _ rfl (Nat.le_refl _) (mark_len s)
theorem filter_all {α : Type} {p : α → Bool} {l : List α} (h : ∀ x ∈ l, p x = true) : l.filter p = l := List.filter_eq_self.2 h
theorem ends_ok {s : List UInt8} {i : Nat} {p : Nat × Nat × Nat} (h : (endsF s)[i]? = some p) : p.1 ≤ p.2.1 ∧ p.2.1 ≤ p.2.2 ∧ p.2.2 ≤ s.length :=
 pcs_okN s _ _ _ rfl (Nat.le_refl _) (mark_len s) p (List.mem_of_getElem? h)
theorem ends_len (s : List UInt8) : 1 ≤ (endsF s).length ∧ (endsF s).length ≤ s.length + 1 := by
 have := pcsI_len s
 rw [pcsI_ends, List.length_map] at this; exact this
theorem pcsR_len (s : List UInt8) : (pcsR s).length ≤ s.length + 1 := by
 rw [pcsR_ends]; exact Nat.le_trans (List.length_filter_le _ _) (ends_len s).2
theorem pcsR_ok {s : List UInt8} {i : Nat} {p : Nat × Nat × Nat} (h : (pcsR s)[i]? = some p) : p.1 ≤ p.2.1 ∧ p.2.1 ≤ p.2.2 ∧ p.2.2 ≤ s.length := by
 have hm := List.mem_of_getElem? h
 rw [pcsR_ends] at hm
 obtain ⟨i, hi⟩ := List.mem_iff_getElem?.1 (List.mem_filter.1 hm).1
 exact ends_ok hi
def textOf (s : List UInt8) (p : Nat × Nat × Nat) : List UInt8 := (s.take p.2.1).drop p.1
def placeF (s : List UInt8) (line col : Int) : Int × Int :=
  if line < 1 ∨ ((endsF s).length : Int) < line ∨ col < 1 then (0, 2) else
  match (endsF s)[(line - 1).toNat]? with
  | none => (0, 2)
  | some p => match (charsFrom (textOf s p) 0)[(col - 1).toNat]? with
    | some c => (((p.1 + c.1 : Nat) : Int), 0)
    | none => if col = ((charsFrom (textOf s p) 0).length : Int) + 1 then ((p.2.1 : Int), 0) else (0, 2)
def fromAt (s : List UInt8) (i : Nat) : Nat := ((endsF s).getD i (0, 0, 0)).1
def lixF (s : List UInt8) (b : Int) : Nat → Nat
  | 0 => 0
  | i + 1 => if i = 0 ∨ (fromAt s i : Int) ≤ b then i else lixF s b i
def cntE (x : Int) (l : List (Nat × Nat × Nat)) : Nat := (l.filter fun c => decide (((c.1 + c.2.1 : Nat) : Int) ≤ x)).length
def cntA (x : Int) (l : List (Nat × Nat × Nat)) : Nat := (l.filter fun c => decide (0 < c.1 ∧ (c.1 : Int) ≤ x)).length
def whereF (s : List UInt8) (b : Int) : Int × Int :=
  if b < 0 ∨ (s.length : Int) < b then (0, 0) else
  (((lixF s b (endsF s).length + 1 : Nat) : Int), ((1 + cntE (b - fromAt s (lixF s b (endsF s).length)) (charsFrom (textOf s ((endsF s).getD (lixF s b (endsF s).length) (0, 0, 0))) 0) : Nat) : Int))
end Go.FK
end

/- === PLeach === -/
section
/- Plain laws of chapter 3: what is told of a text, by the pieces of the reference. -/
namespace Go.FK
open Go Go.RowKit
def encTold (x : Int × List UInt8) : List Value := [.int .i64 x.1, S x.2]
def allF (s : List UInt8) (few : Int) : List (Int × List UInt8) := if 1 ≤ few ∧ few < ((toldF s).length : Int) then (toldF s).take few.toNat else toldF s
def toldR (s : List UInt8) : Nat → List (Nat × Nat × Nat) → List (Int × List UInt8)
  | _, [] => []
  | k, p :: l => (((k + 1 : Nat) : Int), (s.take p.2.1).drop p.1) :: toldR s (k + 1) l
theorem toldL_app (s : List UInt8) : ∀ (l m : List (Nat × Nat × Nat)) (k : Nat), (∀ p ∈ l, keepP p = true) → toldL s k ((l ++ m).map toI) = toldR s k l ++ toldL s (k + l.length) (m.map toI)
 | [], m, k, _ => by simp [toldR]
 | p :: l, m, k, h => by
  have hp := h p List.mem_cons_self
  simp only [keepP, decide_eq_true_eq] at hp
  rw [List.cons_append, List.map_cons, toldL, if_neg (by simp only [toI]; omega), toldL_app s l m (k + 1) (fun q hq => h q (List.mem_cons_of_mem _ hq)), toldR]
  have e : k + 1 + l.length = k + (p :: l).length := by rw [List.length_cons]; omega
  rw [e]
  simp [toI]
theorem told_ref (s : List UInt8) : toldF s = toldR s 0 (pcsR s) := by
 obtain ⟨init, b, e, a, f, i, g⟩ := ends_shape s
 have hf : init.filter keepP = init := filter_all fun x hx => (a x hx).1
 have key : pcsR s = init ++ if keepP (b, s.length, s.length) = true then [(b, s.length, s.length)] else [] := by rw [pcsR_ends, e, List.filter_append, hf, List.filter_cons, List.filter_nil]
 unfold toldF
 rw [pcsI_ends, e, toldL_app s init _ 0 (fun p hp => (a p hp).1), key]
 by_cases hk : keepP (b, s.length, s.length) = true
 ·rw [if_pos hk]
  have h := toldL_app s [(b, s.length, s.length)] [] (0 + init.length) (fun p hp => by obtain rfl := List.mem_singleton.1 hp; exact hk)
  have c := toldL_app s (init ++ [(b, s.length, s.length)]) [] 0 (fun p hp => by
   rcases List.mem_append.1 hp with hp | hp
   ·exact (a p hp).1
   ·obtain rfl := List.mem_singleton.1 hp; exact hk)
  have d := toldL_app s init [(b, s.length, s.length)] 0 (fun p hp => (a p hp).1)
  rw [List.append_nil] at c
  rw [← d, c]; simp [toldL]
 ·rw [if_neg hk, List.append_nil]
  simp only [keepP, decide_eq_true_eq] at hk
  have : b = s.length := by omega
  subst this
  simp [toI, toldL]
theorem toldR_len (s : List UInt8) : ∀ (l : List (Nat × Nat × Nat)) (k : Nat), (toldR s k l).length = l.length
 | [], k => rfl
 | p :: l, k => by rw [toldR, List.length_cons, toldR_len s l (k + 1), List.length_cons]
theorem toldR_at (s : List UInt8) : ∀ (l : List (Nat × Nat × Nat)) (k i : Nat) (p : Nat × Nat × Nat), l[i]? = some p → (toldR s k l)[i]? = some (((k + i + 1 : Nat) : Int), (s.take p.2.1).drop p.1)
 | [], k, i, p, h => by simp at h
 | q :: l, k, 0, p, h => by simp at h; subst h; rfl
 | q :: l, k, i + 1, p, h => by
  rw [toldR, List.getElem?_cons_succ, toldR_at s l (k + 1) i p (by simpa using h)]
  have e : k + 1 + i + 1 = k + (i + 1) + 1 := by omega
  rw [e]
theorem told_lenR (s : List UInt8) : (toldF s).length = (pcsR s).length := by rw [told_ref, toldR_len]
def okPc (s : List UInt8) (p : List (Nat × Nat × Nat)) : Prop := ∀ x ∈ p, x.1 ≤ x.2.1 ∧ x.2.1 ≤ s.length
end Go.FK
end

/- === PLrds === -/
section
/- Plain laws of chapter 3: the reference's lines, one by one; lists of lines held against each other. -/
namespace Go.FK
open Go Go.RowKit
theorem told_piece {s : List UInt8} {k : Nat} {p : Nat × Nat × Nat} (hp : (pcsR s)[k]? = some p) : (toldF s)[k]? = some (((k + 1 : Nat) : Int), (s.take p.2.1).drop p.1) := by
 rw [told_ref]
 have := toldR_at s (pcsR s) 0 k p hp
 rw [Nat.zero_add] at this; exact this
theorem take_at {α : Type} {l : List α} {k : Nat} {x : α} (h : l[k]? = some x) : l.take (k + 1) = l.take k ++ [x] := by
 obtain ⟨a, rfl⟩ := List.getElem?_eq_some_iff.1 h
 exact List.take_succ_eq_append_getElem a
theorem take_pre {α : Type} (l : List α) (k : Nat) : l.take k <+: l := ⟨l.drop k, List.take_append_drop k l⟩
theorem told_take {s : List UInt8} {k : Nat} (h : (pcsR s).length ≤ k) : (toldF s).take k = toldF s := List.take_of_length_le (by rw [told_lenR]; exact h)
open Classical in
noncomputable def eqLs (a b : List LineV) : Bool := decide (a.map stripL = b.map stripL)
def NRd (w : World) (v : Value) (xs : List LineV) : Prop := Rd w encLine v xs ∧ ∀ x ∈ xs, Rd w encStr x.v x.fs
section
variable {F : Nat} {w w' : World} {B E k i : Nat} {enc : LineV → List Value} {v v' q : Value} {xs ys : List LineV}
theorem NRd.nil (w : World) : NRd w (.slice none 0 0) [] := ⟨Rd.nil _ _, fun _ h => by cases h⟩
def ND (xs : List LineV) : Prop := ∀ (i j : Nat) (x y : LineV) (g : Nat), xs[i]? = some x → xs[j]? = some y → i ≠ j → x.v.ownBlock = some g → y.v.ownBlock ≠ some g
def SRow (F i : Nat) (w : World) (B E k : Nat) (enc : LineV → List Value) (v : Value) (xs : List LineV) : Prop := Row w B E k enc v xs ∧ (∀ (j : Nat) (x : LineV), i ≤ j → xs[j]? = some x → Row w B F 1 encStr x.v x.fs) ∧ ND xs
theorem SRow.of (h : NRow F w B E k enc v xs) (hd : ND xs) : SRow F 0 w B E k enc v xs := ⟨h.1, fun j x _ hx => h.2 x (List.mem_of_getElem? hx), hd⟩
end
end Go.FK
end

/- === FKq === -/
section
/- FKq: arguments of plain data, opened: structs, slices of plain elements, lines. My own text. -/
namespace Go.FK
open Go Go.RowKit Go.ChangeShapes Go.WideShapes
def CapOk (v : Value) : Prop := ∀ a n c, v = .slice a n c → n ≤ c
structure Flat (P : Program) (t : TypeId) (k : Nat) {α : Type} (enc : α → List Value) (dat : (H : Type) → α → DataW H) (good : α → Prop) : Prop where
  len : ∀ a, (enc a).length = k
  size : P.cellsOf t = k
  dec : ∀ {H : Type} {en : TypeId × Value → H} {w : World} {base : Nat} {spare : Nat → Bool} {held : Bool} {n : Nat} {cs : List Value} {x : DataW H × List MemPlace}, DataW.trod en P w base spare held n t cs = some x → ∃ a, cs = enc a ∧ x = (dat H a, []) ∧ good a
section
variable {P : Program} {t : TypeId}
variable {H : Type} {en : TypeId × Value → H} {w : World} {base n : Nat} {spare : Nat → Bool} {held : Bool} {cs : List Value} {x : DataW H × List MemPlace}
end
end Go.FK
end

/- === PHexM === -/
section
/- Plain functions of chapter 4: code points in hexadecimal. -/
namespace Go.FK
open Go Go.RowKit
def hexTab : List UInt8 := [48, 49, 50, 51, 52, 53, 54, 55, 56, 57, 65, 66, 67, 68, 69, 70]
def digitV (c : Nat) : Int := if 48 ≤ c ∧ c ≤ 57 then (c : Int) - 48 else if 65 ≤ c ∧ c ≤ 70 then (c : Int) - 55 else -1
theorem vK (c : Nat) : -1 ≤ digitV c ∧ digitV c ≤ 15 := by
 unfold digitV; repeat' split
 all_goals omega
set_option maxRecDepth 100000 in
theorem ibF_tab (c : UInt8) : ibF [48, 49, 50, 51, 52, 53, 54, 55, 56, 57, 65, 66, 67, 68, 69, 70] ((c.toNat : Nat) : Int) = digitV c.toNat := by
 have key : (List.range 256).all (fun n => Lib.indexByte hexTab (UInt8.ofNat n) == digitV n) = true := by kernel_rfl
 have h := List.all_eq_true.1 key c.toNat (List.mem_range.2 (by have := c.toNat_lt; omega))
 have a : Lib.indexByte hexTab (UInt8.ofNat c.toNat) = digitV c.toNat := by simpa using h
 unfold ibF
 rw [Int.toNat_natCast]
 exact a
def hexV : List UInt8 → Nat → Option Nat
  | [], n => some n
  | c :: l, n => if digitV c.toNat < 0 then none else hexV l (16 * n + (digitV c.toNat).toNat)
def hexF (s : List UInt8) : Int × Int :=
  if (s.length < 4 ∨ 6 < s.length) ∨ (4 < s.length ∧ s.getD 0 0 = 48) then (0, 40) else
  match hexV s 0 with
  | none => (0, 40)
  | some n => if 1114111 < n then (0, 40) else ((n : Int), 0)
theorem hexF_len {s : List UInt8} (h : s.length < 4 ∨ 6 < s.length) : hexF s = (0, 40) := by unfold hexF; rw [if_pos (.inl h)]
theorem hexF_zero {s : List UInt8} {c : UInt8} (h : 4 < s.length) (hc : s[0]? = some c) (h0 : c.toNat = 48) : hexF s = (0, 40) := by
 have : c = 48 := UInt8.toNat_inj.1 h0
 unfold hexF; rw [if_pos (.inr ⟨h, by rw [List.getD_eq_getElem?_getD, hc, this]; rfl⟩)]
theorem hexF_bad {s : List UInt8} {i n : Nat} {c : UInt8} (hi : hexV (s.drop i) n = hexV s 0) (hc : s[i]? = some c) (hd : digitV c.toNat < 0) : hexF s = (0, 40) := by
 rw [xR hc, hexV, if_pos hd] at hi
 unfold hexF
 split
 ·rfl
 ·rw [← hi]
theorem hexV_step {s : List UInt8} {i n : Nat} {c : UInt8} (hi : hexV (s.drop i) n = hexV s 0) (hc : s[i]? = some c) (hd : 0 ≤ digitV c.toNat) : hexV (s.drop (i + 1)) (16 * n + (digitV c.toNat).toNat) = hexV s 0 := by
 rw [xR hc, hexV, if_neg (by omega)] at hi
 exact hi
theorem qS {s : List UInt8} {i n : Nat} (hi : hexV (s.drop i) n = hexV s 0) (h : s.length ≤ i) : hexV s 0 = some n := by
 rw [List.drop_eq_nil_of_le h, hexV] at hi; exact hi.symm
theorem hexF_big {s : List UInt8} {n : Nat} (h : hexV s 0 = some n) (hn : 1114111 < n) : hexF s = (0, 40) := by
 unfold hexF
 split
 ·rfl
 ·rw [h]; simp only; rw [if_pos hn]
theorem hexF_ok {s : List UInt8} {n : Nat} (h : hexV s 0 = some n) (hn : n ≤ 1114111) (h1 : 4 ≤ s.length) (h2 : s.length ≤ 6) (h3 : s.length ≤ 4 ∨ ∃ c, s[0]? = some c ∧ c.toNat ≠ 48) : hexF s = ((n : Int), 0) := by
 unfold hexF
 rw [if_neg, h]
 ·simp only; rw [if_neg (by omega)]
 ·intro hx
  rcases hx with hx | ⟨hx, a⟩
  ·omega
  ·rcases h3 with h3 | ⟨c, hc, hne⟩
   ·omega
   ·rw [List.getD_eq_getElem?_getD, hc] at a
    apply hne
    have : c = 48 := a
    rw [this]; rfl
theorem pow16 {i n : Nat} (h : n < 16 ^ i) (hi : i ≤ 5) : n < 1048576 := by
 have := Nat.pow_le_pow_right (n := 16) (by omega) hi
 omega
theorem pow16s {i n b : Nat} (h : n < 16 ^ i) (hb : b < 16) : 16 * n + b < 16 ^ (i + 1) := by
 rw [Nat.pow_succ]; omega
theorem pow166 {i n : Nat} (h : n < 16 ^ i) (hi : i ≤ 6) : n < 16777216 := by
 have := Nat.pow_le_pow_right (n := 16) (by omega) hi
 omega
def mayF (lo hi : Int) : Bool := decide (0 ≤ lo ∧ lo ≤ hi ∧ hi ≤ 1114111)
end Go.FK
namespace Go.FK
open Go Go.RowKit
theorem dig_found {i : Nat} {c : UInt8} (h : ([48, 49, 50, 51, 52, 53, 54, 55, 56, 57, 65, 66, 67, 68, 69, 70] : List UInt8)[i]? = some c) : digitV c.toNat = (i : Int) := by
 have hi : i < 16 := by have := (List.getElem?_eq_some_iff.1 h).1; simpa using this
 have key : ∀ i : Nat, i < 16 → digitV (hexTab.getD i 0).toNat = ((i : Nat) : Int) := by decide
 have e : hexTab.getD i 0 = c := by rw [List.getD_eq_getElem?_getD]; exact congrArg (fun o => Option.getD o 0) h
 rw [← e]; exact key i hi
theorem dig_none {b : Nat} (h : ∀ (j : Nat) (c : UInt8), j < 16 → ([48, 49, 50, 51, 52, 53, 54, 55, 56, 57, 65, 66, 67, 68, 69, 70] : List UInt8)[j]? = some c → c.toNat ≠ b) : digitV b = -1 := by
 unfold digitV
 split
 ·rename_i hb
  exfalso
  have key : ∀ j : Nat, j < 10 → hexTab[j]? = some (UInt8.ofNat (48 + j)) ∧ (UInt8.ofNat (48 + j)).toNat = 48 + j := by decide
  obtain ⟨hc, he⟩ := key (b - 48) (by omega)
  exact h (b - 48) _ (by omega) hc (by omega)
 ·split
  ·rename_i hb
   exfalso
   have key : ∀ j : Nat, j < 6 → hexTab[10 + j]? = some (UInt8.ofNat (65 + j)) ∧ (UInt8.ofNat (65 + j)).toNat = 65 + j := by decide
   obtain ⟨hc, he⟩ := key (b - 65) (by omega)
   exact h (10 + (b - 65)) _ (by omega) hc (by omega)
  ·rfl
def digInv (b : Int) (i : Nat) : Prop := ∀ (j : Nat) (c : UInt8), j < i → ([48, 49, 50, 51, 52, 53, 54, 55, 56, 57, 65, 66, 67, 68, 69, 70] : List UInt8)[j]? = some c → (c.toNat : Int) ≠ b
theorem digInv_zero (b : Int) : digInv b 0 := fun j c h => by omega
theorem digInv_succ {b : Int} {i : Nat} {c : UInt8} (h : digInv b i) (hc : ([48, 49, 50, 51, 52, 53, 54, 55, 56, 57, 65, 66, 67, 68, 69, 70] : List UInt8)[i]? = some c) (hne : (c.toNat : Int) ≠ b) : digInv b (i + 1) := by
 intro j c' hj hc'
 rcases Nat.lt_or_ge j i with a | a
 ·exact h j c' a hc'
 ·obtain rfl : j = i := by omega
  rw [hc] at hc'; cases hc'; exact hne
theorem digInv_end {b : Int} {i : Nat} (h : digInv b i) (hi : 16 ≤ i) (hb : 0 ≤ b) : digitV b.toNat = -1 :=
 dig_none fun j c hj hc he => h j c (by omega) hc (by omega)
def hexDig (n i : Nat) : UInt8 := hexTab.getD (n / 16 ^ i % 16) 0
def cntD (n : Nat) : Nat := if n < 65536 then 4 else if n < 1048576 then 5 else 6
def digsD (n l : Nat) : List UInt8 := ((List.range l).map (hexDig n)).reverse
def showF (r : Int) : List UInt8 × Int := if r < 0 ∨ 1114111 < r then ([], 40) else (digsD r.toNat (cntD r.toNat), 0)
theorem digsD_len (n l : Nat) : (digsD n l).length = l := by simp [digsD]
theorem cntD_le (n : Nat) : 4 ≤ cntD n ∧ cntD n ≤ 6 := by
 unfold cntD
 split
 ·omega
 ·split <;> omega
theorem cnt_lt {n l : Nat} (h : 0 < n / 16 ^ l) (hn : n ≤ 1114111) (hl : l ≤ cntD n) : l < cntD n := by
 rcases Nat.lt_or_ge l (cntD n) with a | a
 ·exact a
 ·exfalso
  obtain rfl : l = cntD n := by omega
  have : n / 16 ^ cntD n = 0 := by
   apply Nat.div_eq_of_lt
   unfold cntD
   split
   ·simpa using by assumption
   ·split
    ·simpa using by assumption
    ·simp; omega
  omega
theorem cnt_end {n l : Nat} (h : n / 16 ^ l = 0) (h4 : 4 ≤ l) (hl : l ≤ cntD n) : l = cntD n := by
 have hlt : n < 16 ^ l := by
  rcases Nat.lt_or_ge n (16 ^ l) with a | a
  ·exact a
  ·have := Nat.div_pos a (Nat.pow_pos (n := l) (show 0 < 16 by omega)); omega
 rcases Nat.lt_or_ge l (cntD n) with a | a
 ·exfalso
  unfold cntD at a
  split at a
  ·omega
  ·split at a
   ·obtain rfl : l = 4 := by omega
    simp at hlt; omega
   ·have e : l = 4 ∨ l = 5 := by omega
    rcases e with rfl | rfl <;> (simp at hlt; omega)
 ·omega
theorem digs_succ {n l : Nat} {c : UInt8} (hc : hexTab[n / 16 ^ l % 16]? = some c) : c :: digsD n l = digsD n (l + 1) := by
 unfold digsD
 rw [List.range_succ, List.map_append, List.reverse_append]
 have : hexDig n l = c := by unfold hexDig; rw [List.getD_eq_getElem?_getD, hc]; rfl
 simp [this]
theorem bytesI_u8 (c : UInt8) : bytesI [((c.toNat : Nat) : Int)] = [c] := by simp [bytesI]
end Go.FK
namespace Go.FK
def showSpanF (lo hi : Int) : List UInt8 × Int := if mayF lo hi = false then ([], 41) else if lo = hi then ((showF lo).1, 0) else ((showF lo).1 ++ [46, 46] ++ (showF hi).1, 0)
theorem uC {r : Int} (h : r < 0 ∨ 1114111 < r) : showF r = ([], 40) := by unfold showF; rw [if_pos h]
theorem showF_ok {r : Int} (h1 : 0 ≤ r) (h2 : r ≤ 1114111) : showF r = (digsD r.toNat (cntD r.toNat), 0) := by unfold showF; rw [if_neg (by omega)]
theorem showF_len (r : Int) : (showF r).1.length ≤ 6 := by
 unfold showF
 split
 ·simp
 ·simp only; rw [digsD_len]; exact (cntD_le _).2
def dotsN (s : List UInt8) : Nat → Nat → Option Nat
  | 0, _ => none
  | f + 1, i => if i + 1 < s.length then (if s.getD i 0 = 46 ∧ s.getD (i + 1) 0 = 46 then some i else dotsN s f (i + 1)) else none
def dotsFrom (s : List UInt8) (i : Nat) : Option Nat := dotsN s (s.length - i) i
def spanF (s : List UInt8) : Int × Int × Int :=
  match dotsFrom s 0 with
  | none => if (hexF s).2 ≠ 0 then (0, 0, (hexF s).2) else ((hexF s).1, (hexF s).1, 0)
  | some a => if (hexF (s.take a)).2 ≠ 0 ∨ (hexF (s.drop (a + 2))).2 ≠ 0 then (0, 0, 40) else if (hexF (s.drop (a + 2))).1 < (hexF (s.take a)).1 then (0, 0, 41) else ((hexF (s.take a)).1, (hexF (s.drop (a + 2))).1, 0)
def atInv (s : List UInt8) (i : Nat) (at_ : Int) : Prop := (at_ = -1 ∧ dotsFrom s i = dotsFrom s 0) ∨ (0 ≤ at_ ∧ at_.toNat + 1 < s.length ∧ dotsFrom s 0 = some at_.toNat)
end Go.FK
namespace Go.FK
open Go Go.RowKit
theorem uD {r : Nat} {acc : List UInt8} {z : Int} {c : UInt8} (i2 : z = ((r / 16 ^ acc.length : Nat) : Int)) (i3 : acc = digsD r acc.length) (hc : ([48, 49, 50, 51, 52, 53, 54, 55, 56, 57, 65, 66, 67, 68, 69, 70] : List UInt8)[(z % 16).toNat]? = some c) :
  (bytesI [((c.toNat : Nat) : Int)] ++ acc).length = acc.length + 1 ∧ z / 16 = ((r / 16 ^ (bytesI [((c.toNat : Nat) : Int)] ++ acc).length : Nat) : Int) ∧ bytesI [((c.toNat : Nat) : Int)] ++ acc = digsD r (bytesI [((c.toNat : Nat) : Int)] ++ acc).length := by
 have hl : (bytesI [((c.toNat : Nat) : Int)] ++ acc).length = acc.length + 1 := by rw [bytesI_u8]; rfl
 refine ⟨hl, ?_, ?_⟩
 ·rw [hl, Nat.pow_succ, ← Nat.div_div_eq_div_mul]
  generalize r / 16 ^ acc.length = q at *; omega
 ·rw [hl, bytesI_u8]
  have h : hexTab[r / 16 ^ acc.length % 16]? = some c := by
   have e : r / 16 ^ acc.length % 16 = (z % 16).toNat := by generalize r / 16 ^ acc.length = q at *; omega
   rw [e]; exact hc
  rw [← digs_succ h, ← i3]; rfl
theorem show_end {r : Nat} {acc : List UInt8} {z : Int} (i1 : acc.length ≤ cntD r) (i2 : z = ((r / 16 ^ acc.length : Nat) : Int)) (i3 : acc = digsD r acc.length) (hz : z ≤ 0) (h4 : 4 ≤ acc.length) : acc = digsD r (cntD r) := by
 have hq : r / 16 ^ acc.length = 0 := by generalize r / 16 ^ acc.length = q at i2 ⊢; omega
 have he := cnt_end (n := r) (l := acc.length) hq h4 i1
 rw [← he]; exact i3
theorem show_facts {r : Nat} {acc : List UInt8} {z : Int} (i1 : acc.length ≤ cntD r) (i2 : z = ((r / 16 ^ acc.length : Nat) : Int)) (hr : r ≤ 1114111) : 0 ≤ z ∧ z ≤ 1114111 ∧ (0 < z → acc.length < cntD r) := by
 have hd := Nat.div_le_self r (16 ^ acc.length)
 refine ⟨?_, ?_, fun h => cnt_lt ?_ hr i1⟩ <;> (generalize r / 16 ^ acc.length = q at *; omega)
end Go.FK
namespace Go.FK
open Go Go.RowKit
def lowB (l : List UInt8) : List Int := l.reverse.map fun c => (c.toNat : Int)
theorem lowB_back (l : List UInt8) : bytesI (List.reverse (lowB l)) = l := by
 unfold lowB bytesI
 rw [← List.map_reverse, List.reverse_reverse, List.map_map]
 have : ((fun n : Int => UInt8.ofNat n.toNat) ∘ fun c : UInt8 => (c.toNat : Int)) = id := by
  funext c; simp
 rw [this, List.map_id]
theorem show_stepR {r : Nat} {acc : List Int} {z : Int} {c : UInt8} (i2 : z = ((r / 16 ^ acc.length : Nat) : Int)) (i3 : acc = lowB (digsD r acc.length)) (hc : ([48, 49, 50, 51, 52, 53, 54, 55, 56, 57, 65, 66, 67, 68, 69, 70] : List UInt8)[z.toNat % 16]? = some c) :
  z / 16 = ((r / 16 ^ (acc ++ [((c.toNat : Nat) : Int)]).length : Nat) : Int) ∧ acc ++ [((c.toNat : Nat) : Int)] = lowB (digsD r (acc ++ [((c.toNat : Nat) : Int)]).length) := by
 have hl : (acc ++ [((c.toNat : Nat) : Int)]).length = acc.length + 1 := by simp
 rw [hl]
 refine ⟨?_, ?_⟩
 ·rw [Nat.pow_succ, ← Nat.div_div_eq_div_mul]
  generalize r / 16 ^ acc.length = q at *; omega
 ·have h : hexTab[r / 16 ^ acc.length % 16]? = some c := by
   have e : r / 16 ^ acc.length % 16 = z.toNat % 16 := by generalize r / 16 ^ acc.length = q at *; omega
   rw [e]; exact hc
  rw [← digs_succ h]
  unfold lowB
  rw [List.reverse_cons, List.map_append]
  congr 1
theorem show_factsR {r : Nat} {acc : List Int} {z : Int} (i1 : acc.length ≤ cntD r) (i2 : z = ((r / 16 ^ acc.length : Nat) : Int)) (hr : r ≤ 1114111) : 0 ≤ z ∧ z ≤ 1114111 ∧ (0 < z → acc.length < cntD r) := by
 have hd := Nat.div_le_self r (16 ^ acc.length)
 refine ⟨?_, ?_, fun h => cnt_lt ?_ hr i1⟩ <;> (generalize r / 16 ^ acc.length = q at *; omega)
theorem show_endR {r : Nat} {acc : List Int} {z : Int} (i1 : acc.length ≤ cntD r) (i2 : z = ((r / 16 ^ acc.length : Nat) : Int)) (i3 : acc = lowB (digsD r acc.length)) (hz : z ≤ 0) (h4 : 4 ≤ acc.length) : bytesI (List.reverse acc) = digsD r (cntD r) := by
 have hq : r / 16 ^ acc.length = 0 := by generalize r / 16 ^ acc.length = q at i2 ⊢; omega
 have he := cnt_end (n := r) (l := acc.length) hq h4 i1
 rw [i3, lowB_back, he]
end Go.FK
namespace Go.FK
open Go Go.RowKit
end Go.FK
end

/- === PWordM === -/
section
/- PWords: the plain functions of chapter 05 (words): no program in sight. -/
namespace Go.FK
open Go
def blankB (r : Int) : Bool := r == 9 || r == 11 || r == 12 || r == 32 || r == 133 || r == 160 || r == 5760 || r == 8232 || r == 8233 || r == 8239 || r == 8287 || r == 12288 || (decide (8192 ≤ r) && decide (r ≤ 8202))
def runesN (s : List UInt8) : Nat → Nat → List Int
  | 0, _ => []
  | n + 1, pos => if pos < s.length then ((dec s pos).1 : Int) :: runesN s n (pos + (dec s pos).2) else []
theorem runesN_end {s : List UInt8} : ∀ {n pos : Nat}, s.length ≤ pos → runesN s n pos = []
 | 0, _, _ => rfl
 | n + 1, pos, h => by rw [runesN, if_neg (by omega)]
theorem runesN_fuel {s : List UInt8} : ∀ (n m pos : Nat), s.length - pos ≤ n → s.length - pos ≤ m → runesN s n pos = runesN s m pos := by
 intro n
 induction n with
 | zero => intro m pos h _; rw [runesN_end (by omega), runesN_end (by omega)]
 | succ n ih =>
  intro m pos hn hm
  by_cases h : pos < s.length
  ·cases m with
   | zero => omega
   | succ m =>
    have := dec_pos s pos
    rw [runesN, runesN, if_pos h, if_pos h, ih m _ (by omega) (by omega)]
  ·rw [runesN_end (by omega), runesN_end (by omega)]
def runesFrom (s : List UInt8) (pos : Nat) : List Int := runesN s (s.length - pos) pos
theorem qH {s : List UInt8} {pos : Nat} (h : pos < s.length) : runesFrom s pos = ((dec s pos).1 : Int) :: runesFrom s (pos + (dec s pos).2) := by
 have := dec_pos s pos
 unfold runesFrom
 rw [runesN_fuel (s.length - pos) (s.length - pos + 1) pos (by omega) (by omega), runesN, if_pos h]
 rw [runesN_fuel (s.length - pos) (s.length - (pos + (dec s pos).2)) _ (by omega) (by omega)]
theorem runesFrom_end {s : List UInt8} {pos : Nat} (h : s.length ≤ pos) : runesFrom s pos = [] := runesN_end h
def wordsN (s : List UInt8) : Nat → Nat → Int → List (Int × List UInt8)
  | 0, _, fr => if 0 ≤ fr then [(fr, s.drop fr.toNat)] else []
  | n + 1, pos, fr =>
    if pos < s.length then
      if blankB (dec s pos).1 = true then
        if 0 ≤ fr then (fr, (s.take pos).drop fr.toNat) :: wordsN s n (pos + (dec s pos).2) (-1) else wordsN s n (pos + (dec s pos).2) fr
      else if fr < 0 then wordsN s n (pos + (dec s pos).2) pos else wordsN s n (pos + (dec s pos).2) fr
    else if 0 ≤ fr then [(fr, s.drop fr.toNat)] else []
def wordsFrom (s : List UInt8) (pos : Nat) (fr : Int) : List (Int × List UInt8) := wordsN s (s.length - pos) pos fr
def wordsOf (s : List UInt8) : List (Int × List UInt8) := wordsFrom s 0 (-1)
def longN (b : Int) : Nat := if b < 128 then 1 else if b < 192 ∨ 247 < b then 0 else if b < 224 then 2 else if b < 240 then 3 else 4
def scalarB (r : Int) : Bool := decide (0 ≤ r) && decide (r ≤ 1114111) && (decide (r < 55296) || decide (57343 < r))
def widthN (r : Int) : Nat := if scalarB r = true then if r < 128 then 1 else if r < 2048 then 2 else if r < 65536 then 3 else 4 else 0
theorem vN (r : Int) : widthN r = 0 ∧ scalarB r = false ∨ widthN r = 1 ∧ scalarB r = true ∧ 0 ≤ r ∧ r < 128 ∨ widthN r = 2 ∧ scalarB r = true ∧ 128 ≤ r ∧ r < 2048 ∨ widthN r = 3 ∧ scalarB r = true ∧ 2048 ≤ r ∧ r < 65536 ∨ widthN r = 4 ∧ scalarB r = true ∧ 65536 ≤ r ∧ r ≤ 1114111 := by
 unfold widthN
 cases h : scalarB r with
 | false => simp
 | true =>
  have a : 0 ≤ r ∧ r ≤ 1114111 := by simp [scalarB] at h; omega
  simp only [if_true]
  split
  ·simp; omega
  ·split
   ·simp; omega
   ·split
    ·simp; omega
    ·simp; omega
theorem valid_scalar (r : Int) : Utf8.valid r = scalarB r := by
 rw [Bool.eq_iff_iff]; simp [Utf8.valid, scalarB]; omega
theorem enc_ok {r : Int} {n : Nat} (h : scalarB r = true) (hn : r = (n : Int)) : encL [r] = if n < 128 then [UInt8.ofNat n] else if n < 2048 then [UInt8.ofNat (192 + n / 64), UInt8.ofNat (128 + n % 64)] else if n < 65536 then [UInt8.ofNat (224 + n / 4096), UInt8.ofNat (128 + n / 64 % 64), UInt8.ofNat (128 + n % 64)] else [UInt8.ofNat (240 + n / 262144), UInt8.ofNat (128 + n / 4096 % 64), UInt8.ofNat (128 + n / 64 % 64), UInt8.ofNat (128 + n % 64)] := by
 subst hn
 simp only [encL, List.flatMap_cons, List.flatMap_nil, List.append_nil, Utf8.encode, valid_scalar, h, if_true, Int.toNat_natCast]
 repeat' split
 all_goals rfl
theorem qE (n : Nat) : bytesI [(n : Int)] = [UInt8.ofNat n] := by simp [bytesI]
theorem seq0 {r : Int} (h : widthN r = 0) : [239, 191, 189] = encL [r] := by
 have hs : scalarB r = false := by have := vN r; grind
 simp only [encL, List.flatMap_cons, List.flatMap_nil, List.append_nil, Utf8.encode, valid_scalar, hs, Bool.false_eq_true, if_false, Utf8.runeError]
 decide
theorem seq1 {r : Int} (h : widthN r = 1) : bytesI [r] = encL [r] := by
 have hs : scalarB r = true ∧ 0 ≤ r ∧ r < 128 := by have := vN r; grind
 obtain ⟨n, rfl⟩ : ∃ n : Nat, r = (n : Int) := ⟨r.toNat, by omega⟩
 rw [enc_ok hs.1 rfl, if_pos (by omega), qE]
theorem seq2 {r : Int} (h : widthN r = 2) : bytesI [192 + r / 64] ++ bytesI [128 + r % 64] = encL [r] := by
 have hs : scalarB r = true ∧ 128 ≤ r ∧ r < 2048 := by have := vN r; grind
 obtain ⟨n, rfl⟩ : ∃ n : Nat, r = (n : Int) := ⟨r.toNat, by omega⟩
 rw [enc_ok hs.1 rfl, if_neg (by omega), if_pos (by omega)]
 rw [show (192 + (n : Int) / 64) = ((192 + n / 64 : Nat) : Int) by omega, show (128 + (n : Int) % 64) = ((128 + n % 64 : Nat) : Int) by omega, qE, qE]; rfl
theorem seq3 {r : Int} (h : widthN r = 3) : bytesI [224 + r / 4096] ++ bytesI [128 + r / 64 % 64] ++ bytesI [128 + r % 64] = encL [r] := by
 have hs : scalarB r = true ∧ 2048 ≤ r ∧ r < 65536 := by have := vN r; grind
 obtain ⟨n, rfl⟩ : ∃ n : Nat, r = (n : Int) := ⟨r.toNat, by omega⟩
 rw [enc_ok hs.1 rfl, if_neg (by omega), if_neg (by omega), if_pos (by omega)]
 rw [show (224 + (n : Int) / 4096) = ((224 + n / 4096 : Nat) : Int) by omega, show (128 + (n : Int) / 64 % 64) = ((128 + n / 64 % 64 : Nat) : Int) by omega, show (128 + (n : Int) % 64) = ((128 + n % 64 : Nat) : Int) by omega, qE, qE, qE]; rfl
theorem seq4 {r : Int} (h : widthN r = 4) : bytesI [240 + r / 262144] ++ bytesI [128 + r / 4096 % 64] ++ bytesI [128 + r / 64 % 64] ++ bytesI [128 + r % 64] = encL [r] := by
 have hs : scalarB r = true ∧ 65536 ≤ r ∧ r ≤ 1114111 := by have := vN r; grind
 obtain ⟨n, rfl⟩ : ∃ n : Nat, r = (n : Int) := ⟨r.toNat, by omega⟩
 rw [enc_ok hs.1 rfl, if_neg (by omega), if_neg (by omega), if_neg (by omega)]
 rw [show (240 + (n : Int) / 262144) = ((240 + n / 262144 : Nat) : Int) by omega, show (128 + (n : Int) / 4096 % 64) = ((128 + n / 4096 % 64 : Nat) : Int) by omega, show (128 + (n : Int) / 64 % 64) = ((128 + n / 64 % 64 : Nat) : Int) by omega, show (128 + (n : Int) % 64) = ((128 + n % 64 : Nat) : Int) by omega, qE, qE, qE, qE]; rfl
theorem wT (b : Int) : (bytesI [b]).length = 1 := rfl
theorem enc_len (x : Int) : (Utf8.encode x).data.toList.length ≤ 4 := by
 unfold Utf8.encode; simp only
 repeat' split
 all_goals simp
theorem encL_len (l : List Int) : (encL l).length ≤ 4 * l.length := by
 induction l with
 | nil => simp [encL]
 | cons x l ih =>
  have := enc_len x
  simp only [encL, List.flatMap_cons, List.length_append, List.length_cons] at ih ⊢
  omega
theorem encTake_len (l : List Int) (i : Nat) : (encL (l.take i)).length ≤ 4 * l.length := by
 have := encL_len (l.take i)
 have h := List.length_take_le i l
 have a : (l.take i).length ≤ l.length := by rw [List.length_take]; omega
 omega
theorem encL1_len (r : Int) : (encL [r]).length ≤ 4 := by simpa using encL_len [r]
theorem take_succ_some {α : Type} {l : List α} {i : Nat} {x : α} (h : l[i]? = some x) : l.take (i + 1) = l.take i ++ [x] := by
 rw [List.take_add_one, h]; rfl
theorem encL_take {l : List Int} {i : Nat} {x : Int} (h : l[i]? = some x) : encL (l.take i) ++ encL [x] = encL (l.take (i + 1)) := by
 rw [take_succ_some h]; simp [encL]
theorem longN_le (b : Int) : longN b ≤ 4 := by
 unfold longN
 repeat' split
 all_goals omega
def bitsT : List Nat := [0, 127, 31, 15, 7]
def leastT : List Nat := [0, 0, 128, 2048, 65536]
theorem bitsT_len : bitsT.length = 5 := rfl
theorem leastT_len : leastT.length = 5 := rfl
def atN (s : List UInt8) (p : Nat) : Nat → Nat → Nat → Nat × Nat
  | 0, _, x => (0, x)
  | f + 1, i, x => match s[p + i]? with
    | none => (11, 0)
    | some b => if b.toNat < 128 ∨ 191 < b.toNat then (12, 0) else atN s p f (i + 1) (x * 64 + b.toNat - 128)
def finF (n : Nat) (r : Nat × Nat) : Nat × Int × Int :=
  if r.1 ≠ 0 then (1, 65533, r.1) else if r.2 < leastT.getD n 0 then (1, 65533, 13) else if 55296 ≤ r.2 ∧ r.2 ≤ 57343 then (1, 65533, 14) else if 1114111 < r.2 then (1, 65533, 15) else (n, r.2, 0)
def atG (s : List UInt8) (p n i x : Nat) : Nat × Int × Int := finF n (atN s p (n - i) i x)
def atF (s : List UInt8) (p : Nat) : Nat × Int × Int :=
  let c := (s.getD p 0).toNat
  if longN c = 0 then (1, 65533, 10) else atG s p (longN c) 1 (c &&& bitsT.getD (longN c) 0)
theorem at_lead {s : List UInt8} {p : Nat} {c : UInt8} (hc : s[p]? = some c) (h : longN ((c.toNat : Nat) : Int) = 0) : atF s p = (1, 65533, 10) := by
 unfold atF
 rw [List.getD_eq_getElem?_getD, hc]
 simp [h]
theorem at_start {s : List UInt8} {p m : Nat} {c c2 : UInt8} (hc : s[p]? = some c) (hc2 : s[p]? = some c2) (h : ¬ longN ((c.toNat : Nat) : Int) = 0) (hm : bitsT[longN ((c.toNat : Nat) : Int)]? = some m) : atG s p (longN ((c.toNat : Nat) : Int)) 1 (c2.toNat &&& m) = atF s p := by
 obtain rfl : c = c2 := by rw [hc] at hc2; exact Option.some.inj hc2
 unfold atF
 rw [List.getD_eq_getElem?_getD, hc]
 simp [h, hm, List.getD]
theorem at_cut {s : List UInt8} {p n i x : Nat} (hi : i < n) (h : s.length ≤ p + i) : atG s p n i x = (1, 65533, 11) := by
 unfold atG
 obtain ⟨f, hf⟩ : ∃ f, n - i = f + 1 := ⟨n - i - 1, by omega⟩
 rw [hf, atN, List.getElem?_eq_none (by omega)]
 rfl
theorem at_tail {s : List UInt8} {p n i x : Nat} {b : UInt8} (hi : i < n) (hb : s[p + i]? = some b) (h : b.toNat < 128 ∨ 191 < b.toNat) : atG s p n i x = (1, 65533, 12) := by
 unfold atG
 obtain ⟨f, hf⟩ : ∃ f, n - i = f + 1 := ⟨n - i - 1, by omega⟩
 rw [hf, atN, hb]
 simp only [h, if_true]
 rfl
theorem at_step {s : List UInt8} {p n i x : Nat} {b : UInt8} (hi : i < n) (hb : s[p + i]? = some b) (h1 : 128 ≤ b.toNat) (h2 : b.toNat ≤ 191) : atG s p n i x = atG s p n (i + 1) (x * 64 + b.toNat - 128) := by
 unfold atG
 obtain ⟨f, hf⟩ : ∃ f, n - i = f + 1 := ⟨n - i - 1, by omega⟩
 rw [hf, atN, hb]
 simp only [show ¬ (b.toNat < 128 ∨ 191 < b.toNat) by omega, if_false]
 rw [show n - (i + 1) = f by omega]
theorem at_fin {s : List UInt8} {p n i x m : Nat} (hi : n ≤ i) (hm : leastT[n]? = some m) : atG s p n i x = if x < m then (1, 65533, 13) else if 55296 ≤ x ∧ x ≤ 57343 then (1, 65533, 14) else if 1114111 < x then (1, 65533, 15) else (n, (x : Int), 0) := by
 unfold atG finF
 rw [show n - i = 0 by omega, atN, List.getD_eq_getElem?_getD, hm]
 rfl
def atH (s : List UInt8) (p i x : Nat) : Nat × Int × Int := atG s p (longN (((s.getD p 0).toNat : Nat) : Int)) i x
theorem atH_eq {s : List UInt8} {p i x : Nat} {c : UInt8} (hc : s[p]? = some c) : atH s p i x = atG s p (longN ((c.toNat : Nat) : Int)) i x := by
 unfold atH; rw [List.getD_eq_getElem?_getD, hc]; rfl
theorem at_over {s : List UInt8} {p n i x m : Nat} (hi : n ≤ i) (hm : leastT[n]? = some m) (h : x < m) : atG s p n i x = (1, 65533, 13) := by rw [at_fin hi hm, if_pos h]
theorem at_half {s : List UInt8} {p n i x m : Nat} (hi : n ≤ i) (hm : leastT[n]? = some m) (h : m ≤ x) (h1 : 55296 ≤ x) (h2 : x ≤ 57343) : atG s p n i x = (1, 65533, 14) := by rw [at_fin hi hm, if_neg (by omega), if_pos ⟨h1, h2⟩]
theorem at_past {s : List UInt8} {p n i x m : Nat} (hi : n ≤ i) (hm : leastT[n]? = some m) (h : m ≤ x) (h1 : 1114111 < x) : atG s p n i x = (1, 65533, 15) := by rw [at_fin hi hm, if_neg (by omega), if_neg (by omega), if_pos h1]
theorem at_good {s : List UInt8} {p n i x m : Nat} (hi : n ≤ i) (hm : leastT[n]? = some m) (h : m ≤ x) (h1 : x < 55296 ∨ 57343 < x) (h2 : x ≤ 1114111) : atG s p n i x = (n, (x : Int), 0) := by rw [at_fin hi hm, if_neg (by omega), if_neg (by omega), if_neg (by omega)]
theorem bitsT_le {n m : Nat} (hm : bitsT[n]? = some m) : m ≤ 127 := by
 have : ∀ y ∈ bitsT, y ≤ 127 := by decide
 exact this m (List.mem_of_getElem? hm)
theorem and_bits {n m x : Nat} (hm : bitsT[n]? = some m) : x &&& m ≤ 127 := by
 have : ∀ y ∈ bitsT, y ≤ 127 := by decide
 have a := this m (List.mem_of_getElem? hm)
 have := Nat.and_le_right (n := x) (m := m)
 omega
def encSpot (x : Nat × Nat × Int × Int) : List Value := [.int .i64 (x.1 : Int), .int .i64 (x.2.1 : Int), .int .i32 x.2.2.1, .int .i64 x.2.2.2]
theorem finF_w {n : Nat} {r : Nat × Nat} (h : 1 ≤ n) (h4 : n ≤ 4) : 1 ≤ (finF n r).1 ∧ (finF n r).1 ≤ 4 := by
 unfold finF
 repeat' split
 all_goals simp
 exact ⟨h, h4⟩
theorem atF_w (s : List UInt8) (p : Nat) : 1 ≤ (atF s p).1 ∧ (atF s p).1 ≤ 4 := by
 unfold atF
 simp only
 split
 ·simp
 ·rename_i h
  have := longN_le ((s.getD p 0).toNat : Nat)
  exact finF_w (by omega) this
def spotsN (s : List UInt8) : Nat → Nat → List (Nat × Nat × Int × Int)
  | 0, _ => []
  | f + 1, p => if p < s.length then (p, (atF s p).1, (atF s p).2.1, (atF s p).2.2) :: spotsN s f (p + (atF s p).1) else []
theorem spotsN_end {s : List UInt8} : ∀ {n p : Nat}, s.length ≤ p → spotsN s n p = []
 | 0, _, _ => rfl
 | n + 1, p, h => by rw [spotsN, if_neg (by omega)]
theorem spotsN_fuel {s : List UInt8} : ∀ (n m p : Nat), s.length - p ≤ n → s.length - p ≤ m → spotsN s n p = spotsN s m p := by
 intro n
 induction n with
 | zero => intro m p h _; rw [spotsN_end (by omega), spotsN_end (by omega)]
 | succ n ih =>
  intro m p hn hm
  by_cases h : p < s.length
  ·cases m with
   | zero => omega
   | succ m =>
    have := atF_w s p
    rw [spotsN, spotsN, if_pos h, if_pos h, ih m _ (by omega) (by omega)]
  ·rw [spotsN_end (by omega), spotsN_end (by omega)]
def spotsFrom (s : List UInt8) (p : Nat) : List (Nat × Nat × Int × Int) := spotsN s (s.length - p) p
theorem spotsFrom_end {s : List UInt8} {p : Nat} (h : s.length ≤ p) : spotsFrom s p = [] := spotsN_end h
theorem spotsFrom_step {s : List UInt8} {p : Nat} (h : p < s.length) : spotsFrom s p = (p, (atF s p).1, (atF s p).2.1, (atF s p).2.2) :: spotsFrom s (p + (atF s p).1) := by
 have := atF_w s p
 unfold spotsFrom
 rw [spotsN_fuel (s.length - p) (s.length - p + 1) p (by omega) (by omega), spotsN, if_pos h]
 rw [spotsN_fuel (s.length - p) (s.length - (p + (atF s p).1)) _ (by omega) (by omega)]
theorem spotsN_len (s : List UInt8) : ∀ (n p : Nat), (spotsN s n p).length ≤ n
 | 0, _ => by simp [spotsN]
 | n + 1, p => by
  unfold spotsN
  split
  ·simp [spotsN_len s n]
  ·simp
theorem spots_len (s : List UInt8) : (spotsFrom s 0).length ≤ s.length := spotsN_len s _ _
def rrunes (s : List UInt8) : List Int := (spotsFrom s 0).map fun x => x.2.2.1
def dropW (r : Int) : Bool := blankB r || r == 95 || r == 45
def lowerI (r : Int) : Int := if 65 ≤ r ∧ r ≤ 90 then r + 32 else r
def looseL (l : List Int) : List Int := (l.filter (fun r => !dropW r)).map lowerI
theorem wD (r : Int) (l : List Int) : looseL (r :: l) = if dropW r then looseL l else lowerI r :: looseL l := by
 cases h : dropW r <;> simp [looseL, h]
def looseS (s : List UInt8) : List UInt8 := encL (looseL (runesFrom s 0))
def alikeB (a b : List UInt8) : Bool := decide (looseS a = looseS b)
def shortTab : List (List UInt8) := [[], [76], [82], [65, 76], [69, 78], [69, 83], [69, 84], [65, 78], [67, 83], [78, 83, 77], [66, 78], [66], [83], [87, 83], [79, 78], [76, 82, 69], [76, 82, 79], [82, 76, 69], [82, 76, 79], [80, 68, 70], [76, 82, 73], [82, 76, 73], [70, 83, 73], [80, 68, 73]]
def longTab : List (List UInt8) := [[], [76, 101, 102, 116, 95, 84, 111, 95, 82, 105, 103, 104, 116], [82, 105, 103, 104, 116, 95, 84, 111, 95, 76, 101, 102, 116], [65, 114, 97, 98, 105, 99, 95, 76, 101, 116, 116, 101, 114], [69, 117, 114, 111, 112, 101, 97, 110, 95, 78, 117, 109, 98, 101, 114], [69, 117, 114, 111, 112, 101, 97, 110, 95, 83, 101, 112, 97, 114, 97, 116, 111, 114], [69, 117, 114, 111, 112, 101, 97, 110, 95, 84, 101, 114, 109, 105, 110, 97, 116, 111, 114], [65, 114, 97, 98, 105, 99, 95, 78, 117, 109, 98, 101, 114], [67, 111, 109, 109, 111, 110, 95, 83, 101, 112, 97, 114, 97, 116, 111, 114], [78, 111, 110, 115, 112, 97, 99, 105, 110, 103, 95, 77, 97, 114, 107], [66, 111, 117, 110, 100, 97, 114, 121, 95, 78, 101, 117, 116, 114, 97, 108], [80, 97, 114, 97, 103, 114, 97, 112, 104, 95, 83, 101, 112, 97, 114, 97, 116, 111, 114], [83, 101, 103, 109, 101, 110, 116, 95, 83, 101, 112, 97, 114, 97, 116, 111, 114], [87, 104, 105, 116, 101, 95, 83, 112, 97, 99, 101], [79, 116, 104, 101, 114, 95, 78, 101, 117, 116, 114, 97, 108], [76, 101, 102, 116, 95, 84, 111, 95, 82, 105, 103, 104, 116, 95, 69, 109, 98, 101, 100, 100, 105, 110, 103], [76, 101, 102, 116, 95, 84, 111, 95, 82, 105, 103, 104, 116, 95, 79, 118, 101, 114, 114, 105, 100, 101], [82, 105, 103, 104, 116, 95, 84, 111, 95, 76, 101, 102, 116, 95, 69, 109, 98, 101, 100, 100, 105, 110, 103], [82, 105, 103, 104, 116, 95, 84, 111, 95, 76, 101, 102, 116, 95, 79, 118, 101, 114, 114, 105, 100, 101], [80, 111, 112, 95, 68, 105, 114, 101, 99, 116, 105, 111, 110, 97, 108, 95, 70, 111, 114, 109, 97, 116], [76, 101, 102, 116, 95, 84, 111, 95, 82, 105, 103, 104, 116, 95, 73, 115, 111, 108, 97, 116, 101], [82, 105, 103, 104, 116, 95, 84, 111, 95, 76, 101, 102, 116, 95, 73, 115, 111, 108, 97, 116, 101], [70, 105, 114, 115, 116, 95, 83, 116, 114, 111, 110, 103, 95, 73, 115, 111, 108, 97, 116, 101], [80, 111, 112, 95, 68, 105, 114, 101, 99, 116, 105, 111, 110, 97, 108, 95, 73, 115, 111, 108, 97, 116, 101]]
def shortS (c : Int) : List UInt8 := if 1 ≤ c ∧ c ≤ 23 then shortTab.getD c.toNat [] else []
def longS (c : Int) : List UInt8 := if 1 ≤ c ∧ c ≤ 23 then longTab.getD c.toNat [] else []
def shortF (c : Int) : List UInt8 := if 15 ≤ c then shortS c else []
def longF (c : Int) : List UInt8 := if 15 ≤ c then longS c else []
def toldE (c : Int) : Int := if 1 ≤ c ∧ c ≤ 23 then 0 else 2
def classN (name : List UInt8) : Nat → Int → Int × Int
  | 0, _ => (0, 50)
  | n + 1, c => if c ≤ 23 then if alikeB name (shortS c) = true then (c, 0) else if alikeB name (longS c) = true then (c, 0) else classN name n (c + 1) else (0, 50)
def classFrom (name : List UInt8) (c : Int) : Int × Int := classN name (24 - c).toNat c
def classF (name : List UInt8) : Int × Int := classFrom name 1
def cstep (st : List Int × Int × Int) (x : Int × List UInt8) : List Int × Int × Int :=
  if st.2.2 ≠ 0 then st else if (classF x.2).2 ≠ 0 then ([], x.1, (classF x.2).2) else (st.1 ++ [(classF x.2).1], 0, 0)
def classesF (s : List UInt8) : List Int × Int × Int := (wordsOf s).foldl cstep ([], 0, 0)
def letterS (c : Int) : List UInt8 := if c = 0 then [110] else if c = 1 then [111] else if c = 2 then [99] else []
def letterE (c : Int) : Int := if c = 0 ∨ c = 1 ∨ c = 2 then 0 else 2
theorem letterS_none {c : Int} (h : 2 < c) : letterS c = [] := by unfold letterS; rw [if_neg (by omega), if_neg (by omega), if_neg (by omega)]
theorem letterS_tab {c : Int} {x : UInt8} (h : 0 ≤ c) (h2 : c ≤ 2) (hx : ([110, 111, 99] : List UInt8)[c.toNat]? = some x) : bytesI [((x.toNat : Nat) : Int)] = letterS c := by
 have e : c = 0 ∨ c = 1 ∨ c = 2 := by omega
 rcases e with rfl | rfl | rfl <;> (cases hx; rfl)
def sideTab : List (List UInt8) := [[78, 111, 110, 101], [79, 112, 101, 110], [67, 108, 111, 115, 101]]
def sideN (name : List UInt8) : List (List UInt8) → Int → Int × Int
  | [], _ => (0, 51)
  | x :: l, c => if alikeB name (letterS c) = true then (c, 0) else if alikeB name x = true then (c, 0) else sideN name l (c + 1)
def sideFrom (name : List UInt8) (k : Nat) : Int × Int := sideN name (sideTab.drop k) k
theorem wV {name x : List UInt8} {k : Nat} (h : sideTab[k]? = some x) : sideFrom name k = if alikeB name (letterS k) = true then ((k : Int), 0) else if alikeB name x = true then ((k : Int), 0) else sideFrom name (k + 1) := by
 unfold sideFrom
 rw [xR h, sideN]; rfl
theorem sideFrom_end {name : List UInt8} {k : Nat} (h : 3 ≤ k) : sideFrom name k = (0, 51) := by
 unfold sideFrom
 rw [List.drop_eq_nil_of_le (by simpa [sideTab] using h)]; rfl
theorem sideTab_len {k : Nat} {x : List UInt8} (h : sideTab[k]? = some x) : x.length ≤ 30 := by
 have : ∀ y ∈ sideTab, y.length ≤ 30 := by decide
 exact this x (List.mem_of_getElem? h)
theorem letterS_len (c : Int) : (letterS c).length ≤ 30 := by
 unfold letterS; repeat' split
 all_goals simp
def sideF (name : List UInt8) : Int × Int := sideFrom name 0
end Go.FK
end

/- === PBr3 === -/
section
/- PBr3: chapter 8: a book's rows by rising numbers; what a book writes; what a text is read as. My own text. -/
namespace Go.FK
def insI (x : Int) : List Int → List Int
  | [] => [x]
  | y :: l => if x ≤ y then x :: y :: l else y :: insI x l
def srtI : List Int → List Int
  | [] => []
  | x :: l => insI x (srtI l)
theorem insI_perm (x : Int) : ∀ l : List Int, (insI x l).Perm (x :: l)
 | [] => List.Perm.refl _
 | y :: l => by
  rw [insI]
  split
  ·exact List.Perm.refl _
  ·exact ((insI_perm x l).cons y).trans (List.Perm.swap ..)
theorem srtI_perm : ∀ l : List Int, (srtI l).Perm l
 | [] => List.Perm.refl _
 | x :: l => (insI_perm x _).trans ((srtI_perm l).cons x)
theorem insI_pw (x : Int) : ∀ l : List Int, l.Pairwise (· ≤ ·) → (insI x l).Pairwise (· ≤ ·)
 | [], _ => List.pairwise_singleton ..
 | y :: l, h => by
  have a := List.pairwise_cons.1 h
  rw [insI]
  split
  ·rename_i hxy
   refine List.pairwise_cons.2 ⟨fun z hz => ?_, h⟩
   rcases List.mem_cons.1 hz with rfl | hz
   ·exact hxy
   ·exact Int.le_trans hxy (a.1 z hz)
  ·rename_i hxy
   refine List.pairwise_cons.2 ⟨fun z hz => ?_, insI_pw x l a.2⟩
   rcases List.mem_cons.1 ((insI_perm x l).mem_iff.1 hz) with rfl | hz
   ·omega
   ·exact a.1 z hz
theorem srtI_pw : ∀ l : List Int, (srtI l).Pairwise (· ≤ ·)
 | [] => List.Pairwise.nil
 | x :: l => insI_pw x _ (srtI_pw l)
theorem pw_unique : ∀ {l1 l2 : List Int}, l1.Perm l2 → l1.Pairwise (· ≤ ·) → l2.Pairwise (· ≤ ·) → l1 = l2
 | [], l2, h, _, _ => h.nil_eq
 | x :: l1, [], h, _, _ => absurd h.length_eq (by simp)
 | x :: l1, y :: l2, h, h1, h2 => by
  have b := List.pairwise_cons.1 h1
  have a := List.pairwise_cons.1 h2
  have e : x = y := by
   rcases List.mem_cons.1 (h.mem_iff.1 (List.mem_cons_self ..)) with e | hx
   ·exact e
   ·rcases List.mem_cons.1 (h.mem_iff.2 (List.mem_cons_self ..)) with e | hy
    ·exact e.symm
    ·exact Int.le_antisymm (b.1 y hy) (a.1 x hx)
  subst e
  rw [pw_unique ((List.perm_cons x).1 h) b.2 a.2]
theorem Srt.pw {l : List Int} {n : Nat} (h : Srt l 0 n) (hn : n = l.length) : l.Pairwise (· ≤ ·) := by
 subst hn
 rw [List.pairwise_iff_getElem]
 intro i j hi hj hij
 have := h i j (Nat.zero_le _) hij hj
 rw [el_some (List.getElem?_eq_getElem hi), el_some (List.getElem?_eq_getElem hj)] at this
 exact this
def keysB (m : List (Int × Brk)) : List Int := srtI (m.map (·.1))
def rowsB (m : List (Int × Brk)) : List Brk := (keysB m).map (lookB m)
theorem keysB_len (m : List (Int × Brk)) : (keysB m).length = m.length := by rw [keysB, (srtI_perm _).length_eq, List.length_map]
theorem rowsB_len (m : List (Int × Brk)) : (rowsB m).length = m.length := by rw [rowsB, List.length_map, keysB_len]
theorem keys_sorted {xs ys : List Int} {m : List (Int × Brk)} {n : Nat} (hp : xs.Perm (m.map (·.1))) (hw : Sw 0 n xs ys) (hs : Srt ys 0 n) (hn : n = xs.length) : ys = keysB m :=
 pw_unique (hw.perm.trans (hp.trans (srtI_perm _).symm)) (hs.pw (by rw [hw.len]; exact hn)) (srtI_pw _)
theorem rows_take {m : List (Int × Brk)} {i : Nat} {r : Int} (h : (keysB m)[i]? = some r) : ((rowsB m).take i) ++ [lookB m r] = (rowsB m).take (i + 1) := by
 rw [List.take_add_one, rowsB, List.getElem?_map, h]; rfl
theorem rows_pre {m : List (Int × Brk)} {i : Nat} {r : Int} (h : (keysB m)[i]? = some r) : ((rowsB m).take i) ++ [lookB m r] <+: rowsB m := by
 rw [rows_take h]; exact List.take_prefix _ _
def lineB (x : Brk) : List UInt8 := (showF x.1).1 ++ [59, 32] ++ (showF x.2.1).1 ++ [59, 32] ++ letterS x.2.2 ++ [10]
def writeB (m : List (Int × Brk)) : List UInt8 := (rowsB m).flatMap lineB
theorem lineB_len (x : Brk) : (lineB x).length ≤ 47 := by
 have a := showF_len x.1
 have b := showF_len x.2.1
 have c := letterS_len x.2.2
 unfold lineB
 simp only [List.length_append, List.length_cons, List.length_nil]
 omega
theorem flatB_len : ∀ l : List Brk, (l.flatMap lineB).length ≤ 47 * l.length
 | [] => Nat.le_refl _
 | x :: l => by
  have a := lineB_len x
  have b := flatB_len l
  rw [List.flatMap_cons, List.length_append, List.length_cons]
  omega
theorem vV (m : List (Int × Brk)) : (writeB m).length ≤ 47 * m.length := by
 have := flatB_len (rowsB m)
 rwa [rowsB_len] at this
theorem wrB_len {acc : List UInt8} {pre : List Brk} {x : Brk} {m : List (Int × Brk)} (h : acc = pre.flatMap lineB) (hp : pre ++ [x] <+: rowsB m) : acc.length + 47 ≤ 47 * m.length := by
 have a := hp.length_le
 rw [List.length_append, List.length_singleton, rowsB_len] at a
 have b := flatB_len pre
 rw [h]; omega
theorem wrB_step {acc : List UInt8} {pre : List Brk} {x : Brk} (h : acc = pre.flatMap lineB) : acc ++ ((showF x.1).1 ++ [59, 32] ++ (showF x.2.1).1 ++ [59, 32] ++ letterS x.2.2 ++ [10]) = (pre ++ [x]).flatMap lineB := by
 rw [List.flatMap_append, ← h, List.flatMap_singleton]; rfl
end Go.FK
end

/- === PScn === -/
section
/- PScn: the fields of a line are no longer than the line. My own text. -/
namespace Go.FK
open Go Go.RowKit
theorem splF_el (b : UInt8) : ∀ (s : List UInt8), ∀ x ∈ splF b s, x.length ≤ s.length
 | [], x, h => by rw [splF] at h; rw [List.mem_singleton.1 h]; exact Nat.le_refl _
 | c :: l, x, h => by
  rw [splF] at h
  rw [List.length_cons]
  split at h
  ·rcases List.mem_cons.1 h with rfl | h
   ·exact Nat.zero_le _
   ·have := splF_el b l x h; omega
  ·obtain ⟨p, r, e⟩ := splF_ne b l
   have ih := splF_el b l
   rw [e] at h ih
   rcases List.mem_cons.1 h with rfl | h
   ·have := ih p List.mem_cons_self
    rw [List.length_cons]; omega
   ·have := ih x (List.mem_cons_of_mem _ h); omega
theorem fields_el {s x : List UInt8} (h : x ∈ fieldsF s) : x.length ≤ s.length := by
 unfold fieldsF at h
 split at h
 ·cases h
 ·obtain ⟨y, hy, rfl⟩ := List.mem_map.1 h
  exact Nat.le_trans (qR _) (splF_el 59 s y hy)
theorem cut_el {s x : List UInt8} (h : x ∈ (cutF s).1) : x.length ≤ s.length := Nat.le_trans (fields_el (show x ∈ fieldsF (Lib.cut s [35]).1 from h)) (qW s [35]).1
theorem ord_len (s : List UInt8) : (ordF s).2.1.length ≤ s.length := by
 have a := (qW ((headF s).drop 1) [58]).2
 have b := headF_len s
 rw [List.length_drop] at a
 unfold ordF; omega
theorem scan_parts {no : Int} {s : List UInt8} (n : Nat) (hs : s.length ≤ n) : (∀ x ∈ (scanF no s).1.2.2.2.1, x.length ≤ n) ∧ (scanF no s).1.2.2.2.2.length ≤ n := by
 have b : (noteF s).length ≤ n := Nat.le_trans (noteF_len s) hs
 have f : ((noteF s).drop 9).length ≤ n := by rw [List.length_drop]; omega
 have z : (∀ x ∈ zeroL.2.2.2.1, x.length ≤ n) ∧ zeroL.2.2.2.2.length ≤ n := ⟨fun x hx => (by cases hx), Nat.zero_le _⟩
 unfold scanF
 by_cases e : (chkF s).2 ≠ 0
 ·rw [if_pos e]; exact z
 ·rw [if_neg e]
  by_cases d : headF s = []
  ·rw [if_pos d]
   by_cases a : hpB (noteF s) missT = true
   ·rw [if_pos a]; exact ⟨fun x hx => Nat.le_trans (cut_el hx) f, Nat.le_trans (cutF_len _) f⟩
   ·rw [if_neg a]; exact ⟨fun x hx => (by cases hx), b⟩
  ·rw [if_neg d]
   by_cases a : hpB (headF s) [64] = true
   ·rw [if_pos a]
    by_cases c : (ordF s).2.2 = false ∨ nameF (ordF s).1 = false
    ·rw [if_pos c]; exact z
    ·rw [if_neg c]; exact ⟨fun x hx => Nat.le_trans (fields_el hx) (Nat.le_trans (ord_len s) hs), b⟩
   ·rw [if_neg a]; exact ⟨fun x hx => Nat.le_trans (cut_el hx) hs, b⟩
end Go.FK
end

/- === PBr4 === -/
section
/- PBr4: chapter 8: what a fault says (numbers below 100); what a text is read as. My own text. -/
namespace Go.FK
open Go Go.RowKit
def dg2 (n : Int) : List UInt8 := if n < 10 then [UInt8.ofNat (48 + n.toNat)] else [UInt8.ofNat (48 + n.toNat / 10), UInt8.ofNat (48 + n.toNat % 10)]
theorem dg2_len (n : Int) : (dg2 n).length ≤ 2 := by unfold dg2; split <;> simp
theorem itoa2 {P : Program} {f : FuncId} (h : ∀ (i : Nat) (hi : i < 100) (w : World), Calls P f #[.int .i64 i] w fun e w' => e = .returned (.string ⟨(Lib.decDigits i).toArray⟩) ∧ w' = w)
  (n : Int) (w : World) (h0 : 0 ≤ n ∧ n < 100) : Calls P f #[.int .i64 n] w (Ret fun v w' => v = S (dg2 n) ∧ Below w.heap.size w w') := by
 obtain ⟨k, rfl⟩ := Int.eq_ofNat_of_zero_le h0.1
 refine (h k (by omega) w).mono ?_
 rintro e w' ⟨rfl, rfl⟩
 refine ⟨_, rfl, ?_, Below.refl _ _⟩
 have e : Lib.decDigits k = dg2 (k : Int) := by
  unfold dg2
  by_cases hk : k < 10
  ·rw [Lib.decDigits_one hk, if_pos (by omega)]; rfl
  ·rw [Lib.decDigits_two hk (by omega), if_neg (by omega)]; rfl
 rw [e]; rfl
def errD (e : Int) : List UInt8 := ([101, 114, 114, 111, 114, 32] : List UInt8) ++ dg2 e
def fltD (f : List UInt8) (l e : Int) : List UInt8 :=
  if f = [] then ((([108, 105, 110, 101, 32] : List UInt8) ++ dg2 l) ++ ([58, 32] : List UInt8)) ++ errD e
  else (((f ++ ([58] : List UInt8)) ++ dg2 l) ++ ([58, 32] : List UInt8)) ++ errD e
theorem errD_len (e : Int) : (errD e).length ≤ 8 := by
 have := dg2_len e
 unfold errD; rw [List.length_append]; simp only [List.length_cons, List.length_nil]; omega
def encTw (x : Int × Int) : List Value := [.int .i32 x.1, .int .i32 x.2]
def readB (k : Int) (f : List (List UInt8)) : Brk × Bool × Int :=
  if k = 2 then ((0, 0, 0), false, 80)
  else if k = 1 then
    if f.length ≠ 3 then ((0, 0, 0), false, 80)
    else if (hexF (f.getD 0 [])).2 ≠ 0 then ((0, 0, 0), false, (hexF (f.getD 0 [])).2)
    else if (hexF (f.getD 1 [])).2 ≠ 0 then ((0, 0, 0), false, (hexF (f.getD 1 [])).2)
    else if (sideF (f.getD 2 [])).2 ≠ 0 then ((0, 0, 0), false, (sideF (f.getD 2 [])).2)
    else (((hexF (f.getD 0 [])).1, (hexF (f.getD 1 [])).1, (sideF (f.getD 2 [])).1), true, 0)
  else ((0, 0, 0), false, 0)
section
variable {k : Int} {f : List (List UInt8)} {a b c : List UInt8}
theorem qO {i : Nat} (h : f[i]? = some a) : f.getD i [] = a := by rw [List.getD_eq_getElem?_getD, h]; rfl
theorem uI (h : k = 2) : readB k f = ((0, 0, 0), false, 80) := if_pos h
theorem rd_few (h : k = 1) (hl : f.length ≠ 3) : readB k f = ((0, 0, 0), false, 80) := by unfold readB; rw [if_neg (by omega), if_pos h, if_pos hl]
theorem rd_none (h : k ≠ 2) (h1 : k ≠ 1) : readB k f = ((0, 0, 0), false, 0) := by unfold readB; rw [if_neg h, if_neg h1]
theorem rd_a (h : k = 1) (hl : f.length = 3) (ha : f[0]? = some a) (h1 : (hexF a).2 ≠ 0) : readB k f = ((0, 0, 0), false, (hexF a).2) := by
 unfold readB; rw [if_neg (by omega), if_pos h, if_neg (by omega), qO ha, if_pos h1]
theorem rd_b (h : k = 1) (hl : f.length = 3) (ha : f[0]? = some a) (h1 : (hexF a).2 = 0) (hb : f[1]? = some b) (h2 : (hexF b).2 ≠ 0) : readB k f = ((0, 0, 0), false, (hexF b).2) := by
 unfold readB; rw [if_neg (by omega), if_pos h, if_neg (by omega), qO ha, if_neg (by omega), qO hb, if_pos h2]
theorem rd_s (h : k = 1) (hl : f.length = 3) (ha : f[0]? = some a) (h1 : (hexF a).2 = 0) (hb : f[1]? = some b) (h2 : (hexF b).2 = 0) (hc : f[2]? = some c) (h3 : (sideF c).2 ≠ 0) : readB k f = ((0, 0, 0), false, (sideF c).2) := by
 unfold readB; rw [if_neg (by omega), if_pos h, if_neg (by omega), qO ha, if_neg (by omega), qO hb, if_neg (by omega), qO hc, if_pos h3]
theorem rd_ok (h : k = 1) (hl : f.length = 3) (ha : f[0]? = some a) (h1 : (hexF a).2 = 0) (hb : f[1]? = some b) (h2 : (hexF b).2 = 0) (hc : f[2]? = some c) (h3 : (sideF c).2 = 0) : readB k f = (((hexF a).1, (hexF b).1, (sideF c).1), true, 0) := by
 unfold readB; rw [if_neg (by omega), if_pos h, if_neg (by omega), qO ha, if_neg (by omega), qO hb, if_neg (by omega), qO hc, if_neg (by omega)]
end
abbrev lnB (x : Int × List UInt8) : Brk × Bool × Int := readB (scanF x.1 x.2).1.2.1 (scanF x.1 x.2).1.2.2.2.1
def parB : List (Int × List UInt8) → List Brk → List Int → (List Brk × List Int) × Int × Int
  | [], rows, ats => ((rows, ats), 0, 0)
  | x :: l, rows, ats =>
    if (scanF x.1 x.2).2 ≠ 0 then ((rows, ats), x.1, (scanF x.1 x.2).2)
    else if (lnB x).2.2 ≠ 0 then ((rows, ats), x.1, (lnB x).2.2)
    else if (lnB x).2.1 = false then parB l rows ats
    else if addE (kv rows) (lnB x).1 ≠ 0 then ((rows, ats), x.1, addE (kv rows) (lnB x).1)
    else parB l (rows ++ [(lnB x).1]) (ats ++ [x.1])
def parF (s : List UInt8) : (List Brk × List Int) × Int × Int :=
  if (parB (toldF s) [] []).2.2 ≠ 0 then parB (toldF s) [] []
  else match loneI (kv (parB (toldF s) [] []).1.1) (parB (toldF s) [] []).1.1 0 with
    | some i => ((parB (toldF s) [] []).1, (parB (toldF s) [] []).1.2.getD i 0, 82)
    | none => parB (toldF s) [] []
def ParI (pre : List (Int × List UInt8)) (rows : List Brk) (ats : List Int) : Prop := ∀ r, parB (pre ++ r) [] [] = parB r rows ats
section
variable {pre t : List (Int × List UInt8)} {rows : List Brk} {ats : List Int} {x : Int × List UInt8} {s : List UInt8}
theorem ParI.nil : ParI [] [] [] := fun r => rfl
theorem ParI.skip (h : ParI pre rows ats) (h1 : (scanF x.1 x.2).2 = 0) (h2 : (lnB x).2.2 = 0) (h3 : (lnB x).2.1 = false) : ParI (pre ++ [x]) rows ats := fun r => by
 rw [List.append_assoc, h]; show parB (x :: r) rows ats = _
 rw [parB, if_neg (by omega), if_neg (by omega), if_pos h3]
theorem ParI.add (h : ParI pre rows ats) (h1 : (scanF x.1 x.2).2 = 0) (h2 : (lnB x).2.2 = 0) (h3 : (lnB x).2.1 = true) (h4 : addE (kv rows) (lnB x).1 = 0) : ParI (pre ++ [x]) (rows ++ [(lnB x).1]) (ats ++ [x.1]) := fun r => by
 rw [List.append_assoc, h]; show parB (x :: r) rows ats = _
 rw [parB, if_neg (by omega), if_neg (by omega), if_neg (by rw [h3]; decide), if_neg (by omega)]
theorem par_at (h : ParI pre rows ats) (hp : pre ++ [x] <+: toldF s) : ∃ l, parB (toldF s) [] [] = parB (x :: l) rows ats := by
 obtain ⟨l, hl⟩ := hp
 exact ⟨l, by rw [← hl, List.append_assoc, h]; rfl⟩
theorem par_scan (h : ParI pre rows ats) (hp : pre ++ [x] <+: toldF s) (h1 : (scanF x.1 x.2).2 ≠ 0) : (parF s).2 = (x.1, (scanF x.1 x.2).2) := by
 obtain ⟨l, hl⟩ := par_at h hp
 have e : parB (toldF s) [] [] = ((rows, ats), x.1, (scanF x.1 x.2).2) := by rw [hl, parB, if_pos h1]
 unfold parF; rw [e, if_pos h1]
theorem par_read (h : ParI pre rows ats) (hp : pre ++ [x] <+: toldF s) (h1 : (scanF x.1 x.2).2 = 0) (h2 : (lnB x).2.2 ≠ 0) : (parF s).2 = (x.1, (lnB x).2.2) := by
 obtain ⟨l, hl⟩ := par_at h hp
 have e : parB (toldF s) [] [] = ((rows, ats), x.1, (lnB x).2.2) := by rw [hl, parB, if_neg (by omega), if_pos h2]
 unfold parF; rw [e, if_pos h2]
theorem par_add (h : ParI pre rows ats) (hp : pre ++ [x] <+: toldF s) (h1 : (scanF x.1 x.2).2 = 0) (h2 : (lnB x).2.2 = 0) (h3 : (lnB x).2.1 = true) (h4 : addE (kv rows) (lnB x).1 ≠ 0) : (parF s).2 = (x.1, addE (kv rows) (lnB x).1) := by
 obtain ⟨l, hl⟩ := par_at h hp
 have e : parB (toldF s) [] [] = ((rows, ats), x.1, addE (kv rows) (lnB x).1) := by rw [hl, parB, if_neg (by omega), if_neg (by omega), if_neg (by rw [h3]; decide), if_pos h4]
 unfold parF; rw [e, if_pos h4]
theorem par_all (h : ParI (toldF s) rows ats) : parB (toldF s) [] [] = ((rows, ats), 0, 0) := by
 have := h []; rw [List.append_nil] at this; rw [this, parB]
theorem par_lone (h : ParI (toldF s) rows ats) (hi : 0 ≤ idxL (kv rows) rows) : (parF s).2 = (ats.getD (idxL (kv rows) rows).toNat 0, 82) := by
 unfold parF; rw [par_all h, if_neg (by simp)]
 unfold idxL at hi ⊢
 cases hq : loneI (kv rows) rows 0 with
 | none => rw [hq] at hi; simp only at hi; omega
 | some j => simp
theorem par_ok (h : ParI (toldF s) rows ats) (hi : idxL (kv rows) rows < 0) : parF s = ((rows, ats), 0, 0) := by
 unfold parF; rw [par_all h, if_neg (by simp)]
 unfold idxL at hi
 cases hq : loneI (kv rows) rows 0 with
 | none => rfl
 | some j => rw [hq] at hi; simp only at hi; omega
theorem par_add2 {ml : List (Int × Brk)} (h : ParI pre rows ats) (hp : pre ++ [x] <+: toldF s) (hm : ml = kv rows) (h1 : (scanF x.1 x.2).2 = 0) (h2 : (lnB x).2.2 = 0) (h3 : (lnB x).2.1 = true) (h4 : addE ml (lnB x).1 ≠ 0) : (parF s).2 = (x.1, addE ml (lnB x).1) := by
 subst hm; exact par_add h hp h1 h2 h3 h4
theorem par_lone2 {ml : List (Int × Brk)} (h : ParI (toldF s) rows ats) (hm : ml = kv rows) (hi : 0 ≤ idxL ml rows) : (parF s).2 = (ats.getD (idxL ml rows).toNat 0, 82) := by subst hm; exact par_lone h hi
theorem par_ok2 {ml : List (Int × Brk)} (h : ParI (toldF s) rows ats) (hm : ml = kv rows) (hi : idxL ml rows < 0) : parF s = ((rows, ats), 0, 0) := by subst hm; exact par_ok h hi
theorem addM_kv {ml : List (Int × Brk)} {y : Brk} (hm : ml = kv rows) (h : addE ml y = 0) : addM ml y = kv (rows ++ [y]) := by
 rw [addM_y h, kv_snoc, hm]
theorem add_kv {ml : List (Int × Brk)} {y : Brk} (hm : ml = kv rows) (h : addE ml y = 0) : addE (kv rows) y = 0 := hm ▸ h
theorem ats_at {i : Int} {y : Int} (h0 : 0 ≤ i) (h : ats[i.toNat]? = some y) : ats.getD i.toNat 0 = y := by rw [List.getD_eq_getElem?_getD, h]; rfl
theorem par_lone3 {ml : List (Int × Brk)} {y : Int} (h : ParI (toldF s) rows ats) (hm : ml = kv rows) (hi : 0 ≤ idxL ml rows) (hy : ats[(idxL ml rows).toNat]? = some y) : (parF s).2 = (y, 82) := by
 rw [par_lone2 h hm hi, ats_at hi hy]
end
end Go.FK
end

/- === PBr5 === -/
section
/- PBr5: chapter 8: twins. My own text. -/
namespace Go.FK
def cntT (m : List (Int × Brk)) (x : Int × Int) : Bool := (gget m x.1).isSome
def layT (m : List (Int × Brk)) (t : List (Int × Int)) (x : Int × Int) : List (Int × Int) := if cntT m x = true ∧ (gget t x.1).isSome = false then t ++ [(x.1, x.2)] else t
def twsM (m : List (Int × Brk)) (l : List (Int × Int)) : List (Int × Int) := l.foldl (layT m) []
def tw1 (t : List (Int × Int)) (r : Int) : Int := (gget t r).getD r
def badT (m : List (Int × Brk)) (t : List (Int × Int)) (x : Int × Int) : Bool :=
  cntT m x && (!(gget m x.2).isSome || !decide ((lookB m x.2).2.2 = (lookB m x.1).2.2) || (gget t x.2).isSome || !decide (tw1 t (lookB m x.1).2.1 = (lookB m x.2).2.1))
def badI (m : List (Int × Brk)) (t : List (Int × Int)) : List (Int × Int) → Nat → Option Nat
  | [], _ => none
  | x :: l, i => if badT m t x = true then some i else badI m t l (i + 1)
def twE (m : List (Int × Brk)) (l : List (Int × Int)) : Option Nat := badI m (twsM m l) l 0
section
variable {m : List (Int × Brk)} {t : List (Int × Int)} {l : List (Int × Int)} {i : Nat} {x : Int × Int}
def BadI (m : List (Int × Brk)) (t : List (Int × Int)) (l : List (Int × Int)) (i : Nat) : Prop := badI m t l 0 = badI m t (l.drop i) i
theorem BadI.hit (h : BadI m t l i) (hx : l[i]? = some x) (hn : badT m t x = true) : badI m t l 0 = some i := by
 rw [h, drop_at hx, badI, if_pos hn]
theorem BadI.end (h : BadI m t l i) (hi : l.length ≤ i) : badI m t l 0 = none := by
 rw [h, List.drop_eq_nil_of_le hi]; rfl
def twI (m : List (Int × Brk)) (l : List (Int × Int)) : Nat := (twE m l).getD 0
end
end Go.FK
end

/- === PBr6 === -/
section
/- PBr6: chapter 8: others, sides, twins, matches of a book that New or Twins made. My own text. -/
namespace Go.FK
def TwG (m : List (Int × Brk)) (t : List (Int × Int)) : Prop := t = [] ∨ ∃ l, t = twsM m l ∧ twE m l = none
section
variable {rows : List Brk} {t : List (Int × Int)} {x : Brk}
structure PairsP (m : List (Int × Brk)) (t : List (Int × Int)) (x : Brk) : Prop where
  p1 : (brkF m x.1).1 = x.2.1
  p2 : (brkF m x.1).2 = x.2.2
  p3 : (brkF m (brkF m x.1).1).1 = x.1
  p4 : (brkF m (brkF m x.1).1).2 ≠ (brkF m x.1).2
  p5 : (brkF m (brkF m x.1).1).2 ≠ 0
  p6 : (brkF m (twnF t x.1)).2 = (brkF m x.1).2
  p7 : twnF t (twnF t x.1) = twnF t x.1
  p8 : (brkF m (twnF t x.1)).1 = twnF t (brkF m x.1).1
  p9 : mtcF m t x.1 x.2.1 = true ↔ (brkF m x.1).2 = 1
  p10 : mtcF m t x.2.1 x.1 = true ↔ (brkF m x.1).2 = 2
  p11 : ∀ q, (brkF m q).2 = 0 → mtcF m t x.1 q = false ∧ mtcF m t q x.1 = false
end
end Go.FK
end

/- === PLapart === -/
section
/- Plain laws of chapter 3: two texts, one behind the other: the lines of both, those of the second counted on. -/
namespace Go.FK
open Go Go.RowKit
def shP (n : Nat) (p : Nat × Nat × Nat) : Nat × Nat × Nat := (p.1 + n, p.2.1 + n, p.2.2 + n)
def shT (n : Nat) (x : Int × List UInt8) : Int × List UInt8 := (x.1 + n, x.2)
def shL (n : Nat) (x : LineD) : LineD := (x.1 + n, x.2)
section
variable {a b : List UInt8}
end
def shI (n i : Nat) (l : List LineD) : List LineD := (l.take i).map (shL n) ++ l.drop i
section
variable {F : Nat} {w w' : World} {B E k : Nat} {enc : LineV → List Value} {v u q : Value} {xs ys : List LineV}
end
end Go.FK
end

/- === PBr7 === -/
section
/- PBr7: chapter 8: what a book writes is read as the same. My own text. -/
namespace Go.FK
open Go Go.RowKit
def dgB (c : UInt8) : Bool := decide (48 ≤ c.toNat ∧ c.toNat ≤ 57) || decide (65 ≤ c.toNat ∧ c.toNat ≤ 70)
def plB (c : UInt8) : Bool := decide ((33 ≤ c.toNat ∧ c.toNat < 127) ∧ c.toNat ≠ 35 ∧ c.toNat ≠ 59 ∧ c.toNat ≠ 64)
section
variable {A B C : List UInt8} (hA : ∀ c ∈ A, plB c = true) (hB : ∀ c ∈ B, plB c = true) (hC : ∀ c ∈ C, plB c = true) (nA : A ≠ []) (nC : C ≠ [])
def line3 (A B C : List UInt8) : List UInt8 := A ++ 59 :: (32 :: (B ++ 59 :: (32 :: C)))
end
def lnOf (x : Brk) : List UInt8 := line3 (showF x.1).1 (showF x.2.1).1 (letterS x.2.2)
theorem may_parts {x : Brk} (h : mayR x = true) : (0 ≤ x.1 ∧ x.1 ≤ 1114111) ∧ (0 ≤ x.2.1 ∧ x.2.1 ≤ 1114111) ∧ (x.2.2 = 1 ∨ x.2.2 = 2) := by
 unfold mayR ptB at h
 simp only [Bool.and_eq_true, Bool.or_eq_true, decide_eq_true_eq] at h
 exact ⟨h.1.1.1, h.1.1.2, h.2⟩
section
variable {x : Brk} (h : mayR x = true)
include h
end
def tlB : Nat → List Brk → List (Int × List UInt8)
  | _, [] => []
  | k, x :: l => ((k : Int) + 1, lnOf x) :: tlB (k + 1) l
def atB : Nat → List Brk → List Int
  | _, [] => []
  | k, _ :: l => ((k : Int) + 1) :: atB (k + 1) l
theorem gget_perm {r1 r2 : List Brk} (hp : r1.Perm r2) (h1 : (r1.map (·.1)).Nodup) (r : Int) : gget (kv r1) r = gget (kv r2) r := by
 have a : (r2.map (·.1)).Nodup := (hp.map _).nodup_iff.1 h1
 cases hq : gget (kv r1) r with
 | some x =>
  obtain ⟨hx, e⟩ := kv_mem hq
  subst e
  exact (kv_get a (hp.mem_iff.1 hx)).symm
 | none =>
  cases hz : gget (kv r2) r with
  | none => rfl
  | some y =>
   obtain ⟨hy, e⟩ := kv_mem hz
   subst e
   rw [kv_get h1 (hp.mem_iff.2 hy)] at hq; cases hq
theorem kv_keys (rows : List Brk) : (kv rows).map (·.1) = rows.map (·.1) := by unfold kv; rw [List.map_map]; rfl
theorem look_all {rows : List Brk} (hn : (rows.map (·.1)).Nodup) : (rows.map (·.1)).map (lookB (kv rows)) = rows := by
 rw [List.map_map]
 conv => rhs; rw [← List.map_id rows]
 refine List.map_congr_left fun x hx => ?_
 show lookB (kv rows) x.1 = x
 unfold lookB; rw [kv_get hn hx]; rfl
theorem rowsB_perm {rows : List Brk} (hb : BookOk rows) : (rowsB (kv rows)).Perm rows := by
 unfold rowsB keysB
 rw [kv_keys]
 refine ((srtI_perm _).map _).trans (List.Perm.of_eq (look_all hb.nodup))
theorem nodup_len {l : List Int} {n : Nat} (hn : l.Nodup) (h : ∀ x ∈ l, 0 ≤ x ∧ x < n) : l.length ≤ n := by
 have a : (l.map Int.toNat).Nodup := by
  rw [List.nodup_iff_pairwise_ne, List.pairwise_map]
  refine (List.nodup_iff_pairwise_ne.1 hn).imp_of_mem fun ha hb hne e => ?_
  have := h _ ha; have := h _ hb; omega
 have := nodup_lt n (l.map Int.toNat) a (fun i hi => by
  obtain ⟨x, hx, rfl⟩ := List.mem_map.1 hi
  have := h x hx; omega)
 rwa [List.length_map] at this
theorem book_len {rows : List Brk} (hb : BookOk rows) : rows.length ≤ 1114112 := by
 have := nodup_len (n := 1114112) hb.nodup (fun x hx => by
  obtain ⟨y, hy, rfl⟩ := List.mem_map.1 hx
  have := (may_parts (hb.may y hy)).1; omega)
 rwa [List.length_map] at this
theorem kv_len (rows : List Brk) : (kv rows).length = rows.length := by unfold kv; rw [List.length_map]
end Go.FK
end

/- === PRb1 === -/
section
/- PRb1: chapter 8: what the document's answer does: a row found, the first row refused, rows laid in order. My own text. -/
namespace Go.FK
open Go Go.RowKit
section
variable {rows acc c : List Brk} {x y : Brk} {i k : Nat} {r : Int}
theorem fd_on (h : gget (kv (rows.take i)) r = none) (hx : rows[i]? = some x) (hn : x.1 ≠ r) : gget (kv (rows.take (i + 1))) r = none := by
 rw [← kv_take hx, gget_snoc, h]; exact if_neg (fun e => hn e.symm)
theorem fd_more {l m : List (Int × Brk)} (h : gget l r = some x) : gget (l ++ m) r = some x := by
 induction l with
 | nil => cases h
 | cons p l ih =>
  rw [List.cons_append, uA]
  rw [uA] at h
  split
  ·rename_i e; rwa [if_pos e] at h
  ·rename_i e; rw [if_neg e] at h; exact ih h
theorem fd_hit (h : gget (kv (rows.take i)) r = none) (hx : rows[i]? = some x) (he : x.1 = r) : gget (kv rows) r = some x := by
 have a : gget (kv (rows.take (i + 1))) r = some x := by rw [← kv_take hx, gget_snoc, h]; exact if_pos he.symm
 have b : kv rows = kv (rows.take (i + 1)) ++ kv (rows.drop (i + 1)) := by unfold kv; rw [← List.map_append, List.take_append_drop]
 rw [b]; exact fd_more a
theorem fd_end (h : gget (kv (rows.take i)) r = none) (hi : rows.length ≤ i) : gget (kv rows) r = none := by rwa [kv_all hi] at h
theorem lk_hit {m : List (Int × Brk)} (h : gget m r = some x) : lookB m r = x := by unfold lookB; rw [h]; rfl
theorem lk_none {m : List (Int × Brk)} (h : gget m r = none) : lookB m r = (0, 0, 0) := by unfold lookB; rw [h]; rfl
theorem is_hit {m : List (Int × Brk)} (h : gget m r = some x) : (gget m r).isSome = true := by rw [h]; rfl
theorem is_none {m : List (Int × Brk)} (h : gget m r = none) : (gget m r).isSome = false := by rw [h]; rfl
theorem mayr_iff {a o s : Int} : mayR (a, o, s) = true ↔ (0 ≤ a ∧ a ≤ 1114111) ∧ (0 ≤ o ∧ o ≤ 1114111) ∧ a ≠ o ∧ (s = 1 ∨ s = 2) := by
 unfold mayR ptB
 simp only [Bool.and_eq_true, Bool.or_eq_true, decide_eq_true_eq, Bool.not_eq_true', decide_eq_false_iff_not, and_assoc, ne_eq]
theorem mayr_y {a o s : Int} (h : (0 ≤ a ∧ a ≤ 1114111) ∧ (0 ≤ o ∧ o ≤ 1114111) ∧ a ≠ o ∧ (s = 1 ∨ s = 2)) : true = mayR (a, o, s) := (mayr_iff.2 h).symm
theorem mayr_n {a o s : Int} (h : ¬ ((0 ≤ a ∧ a ≤ 1114111) ∧ (0 ≤ o ∧ o ≤ 1114111) ∧ a ≠ o ∧ (s = 1 ∨ s = 2))) : false = mayR (a, o, s) := by
 cases hq : mayR (a, o, s) with
 | false => rfl
 | true => exact absurd (mayr_iff.1 hq) h
def fsI (rows : List Brk) : Nat := ((fstB [] rows 0).getD (0, 0)).1
def fsE (rows : List Brk) : Int := ((fstB [] rows 0).getD (0, 0)).2
theorem fs_bad (h : FstI rows i) (hx : rows[i]? = some x) (hm : mayR x = false) : fsI rows = i ∧ fsE rows = 80 := by
 have e : fstB [] rows 0 = some (i, 80) := by rw [h, drop_at hx, fstB, if_pos hm]
 unfold fsI fsE; rw [e]; exact ⟨rfl, rfl⟩
theorem qC (h : FstI rows i) (hx : rows[i]? = some x) (hm : mayR x = true) (hn : (gget (kv (rows.take i)) x.1).isSome = true) : fsI rows = i ∧ fsE rows = 81 := by
 have e : fstB [] rows 0 = some (i, 81) := by rw [h, drop_at hx, fstB, if_neg (by rw [hm]; decide), if_pos hn]
 unfold fsI fsE; rw [e]; exact ⟨rfl, rfl⟩
theorem fs_all (h : FstI rows i) (hi : rows.length ≤ i) : fsI rows = 0 ∧ fsE rows = 0 := by
 have e : fstB [] rows 0 = none := by rw [h, List.drop_eq_nil_of_le hi]; rfl
 unfold fsI fsE; rw [e]; exact ⟨rfl, rfl⟩
theorem fst_codes : ∀ (l done : List Brk) (i : Nat) (q : Nat × Int), fstB done l i = some q → q.2 = 80 ∨ q.2 = 81
 | [], _, _, _, h => by cases h
 | z :: l, done, i, q, h => by
  rw [fstB] at h
  split at h
  ·cases h; exact .inl rfl
  ·split at h
   ·cases h; exact .inr rfl
   ·exact fst_codes l _ _ q h
theorem fs_none (h : fsE rows = 0) : fstB [] rows 0 = none := by
 cases hq : fstB [] rows 0 with
 | none => rfl
 | some q => exfalso; unfold fsE at h; rw [hq] at h; have := fst_codes _ _ _ _ hq; simp only [Option.getD_some] at h; omega
theorem fs_some (h : fsE rows ≠ 0) : newB rows = some (fsI rows, fsE rows) := by
 cases hq : fstB [] rows 0 with
 | none => exfalso; unfold fsE at h; rw [hq] at h; exact h rfl
 | some q => unfold newB fsI fsE; rw [hq]; rfl
theorem fs_new (h : fsE rows ≠ 0) : newI rows = fsI rows ∧ newE rows = fsE rows := newI_of (fs_some h)
theorem fs_lone (h : fsE rows = 0) (hl : LonI (kv rows) rows i) (hx : rows[i]? = some x) (hb : loneM (kv rows) x = true) : newB rows = some (i, 82) := by
 unfold newB; rw [fs_none h]; simp only; rw [hl.hit hx hb]; rfl
theorem fs_fine (h : fsE rows = 0) (hl : LonI (kv rows) rows i) (hi : rows.length ≤ i) : newB rows = none := by
 unfold newB; rw [fs_none h]; simp only; rw [hl.end hi]; rfl
def SrtB (l : List Brk) : Prop := l.Pairwise fun a b => a.1 ≤ b.1
structure InsI (rows : List Brk) (i : Nat) (acc : List Brk) : Prop where
  perm : acc.Perm (rows.take i)
  srt : SrtB acc
theorem InsI.zero (rows : List Brk) : InsI rows 0 [] := ⟨List.Perm.refl _, List.Pairwise.nil⟩
theorem InsI.len (h : InsI rows i acc) (hi : i ≤ rows.length) : acc.length = i := by rw [h.perm.length_eq, List.length_take]; omega
structure InsW (acc c : List Brk) (x : Brk) (k : Nat) : Prop where
  le : k ≤ acc.length
  ex : ∃ z, c = acc.take k ++ z :: acc.drop k
  lt : ∀ y ∈ acc.drop k, x.1 < y.1
theorem InsW.start (acc : List Brk) (x : Brk) : InsW acc (acc ++ [x]) x acc.length :=
 ⟨Nat.le_refl _, ⟨x, by rw [List.take_length, List.drop_length]⟩, fun y h => by rw [List.drop_length] at h; cases h⟩
theorem InsW.len (h : InsW acc c x k) : c.length = acc.length + 1 := by
 obtain ⟨z, rfl⟩ := h.ex
 have := h.le
 rw [List.length_append, List.length_cons, List.length_take, List.length_drop]; omega
theorem InsW.prev (h : InsW acc c x k) (hk : 0 < k) (hy : c[k - 1]? = some y) : acc[k - 1]? = some y := by
 obtain ⟨z, rfl⟩ := h.ex
 have hl := h.le
 rw [List.getElem?_append_left (by rw [List.length_take]; omega), List.getElem?_take, if_pos (by omega)] at hy
 exact hy
theorem InsW.set (h : InsW acc c x k) (y : Brk) : c.set k y = acc.take k ++ y :: acc.drop k := by
 obtain ⟨z, rfl⟩ := h.ex
 have hl : (acc.take k).length = k := by rw [List.length_take]; have := h.le; omega
 rw [List.set_append, if_neg (by omega), hl, Nat.sub_self, List.set_cons_zero]
theorem InsW.step (h : InsW acc c x k) (hk : 0 < k) (hy : c[k - 1]? = some y) (hlt : x.1 < y.1) : InsW acc (c.set k y) x (k - 1) := by
 have ha := h.prev hk hy
 have hd : acc.drop (k - 1) = y :: acc.drop k := by have := drop_at ha; rwa [show k - 1 + 1 = k by omega] at this
 have ht : acc.take k = acc.take (k - 1) ++ [y] := by have := List.take_add_one (l := acc) (i := k - 1); rw [show k - 1 + 1 = k by omega, ha] at this; exact this
 refine ⟨by have := h.le; omega, ⟨y, ?_⟩, fun z hz => ?_⟩
 ·rw [h.set y, hd, ht, List.append_assoc]; rfl
 ·rw [hd] at hz
  rcases List.mem_cons.1 hz with rfl | hz
  ·exact hlt
  ·exact h.lt z hz
theorem InsW.done (h : InsW acc c x k) (hi : InsI rows i acc) (hx : rows[i]? = some x) (he : k = 0 ∨ ∃ y, c[k - 1]? = some y ∧ y.1 ≤ x.1) : InsI rows (i + 1) (c.set k x) := by
 refine ⟨?_, ?_⟩
 ·rw [h.set x, List.take_add_one, hx, Option.toList_some]
  refine List.perm_middle.trans ?_
  rw [List.take_append_drop]
  exact ((List.perm_cons x).2 hi.perm).trans (List.perm_append_comm (l₁ := [x]))
 ·unfold SrtB
  rw [h.set x]
  have hs : (acc.take k ++ acc.drop k).Pairwise fun a b => a.1 ≤ b.1 := by rw [List.take_append_drop]; exact hi.srt
  rw [List.pairwise_append] at hs
  refine List.pairwise_append.2 ⟨hs.1, List.pairwise_cons.2 ⟨fun y hy => Int.le_of_lt (h.lt y hy), hs.2.1⟩, fun a ha b hb => ?_⟩
  rcases List.mem_cons.1 hb with rfl | hb
  ·rcases he with rfl | ⟨y, hy, hyx⟩
   ·rw [List.take_zero] at ha; cases ha
   ·rcases Nat.eq_zero_or_pos k with d | d
    ·subst d; rw [List.take_zero] at ha; cases ha
    ·have hp := h.prev d hy
     have ht : acc.take k = acc.take (k - 1) ++ [y] := by have := List.take_add_one (l := acc) (i := k - 1); rw [show k - 1 + 1 = k by omega, hp] at this; exact this
     rw [ht] at ha hs
     rcases List.mem_append.1 ha with ha | ha
     ·have := (List.pairwise_append.1 hs.1).2.2 a ha y (List.mem_singleton.2 rfl); omega
     ·rw [List.mem_singleton.1 ha]; exact hyx
  ·exact hs.2.2 a ha b hb
def InsX (rows acc c : List Brk) (i k : Nat) : Prop := ∃ x, rows[i]? = some x ∧ InsW acc c x k
theorem InsX.start (hx : rows[i]? = some x) (hk : acc.length = k) : InsX rows acc (acc ++ [x]) i k := ⟨x, hx, hk ▸ InsW.start acc x⟩
theorem InsX.len (h : InsX rows acc c i k) : c.length = acc.length + 1 ∧ k ≤ acc.length := by obtain ⟨_, _, h⟩ := h; exact ⟨h.len, h.le⟩
theorem InsX.step (h : InsX rows acc c i k) (hx : rows[i]? = some x) (hk : 0 < k) (hy : c[k - 1]? = some y) (hlt : x.1 < y.1) : InsX rows acc (c.set k y) i (k - 1) := by
 obtain ⟨z, hz, h⟩ := h
 obtain rfl : z = x := Option.some.inj (hz.symm.trans hx)
 exact ⟨z, hz, h.step hk hy hlt⟩
theorem InsX.done (h : InsX rows acc c i k) (hi : InsI rows i acc) (hx : rows[i]? = some x) (he : k = 0 ∨ ∃ y, c[k - 1]? = some y ∧ y.1 ≤ x.1) : InsI rows (i + 1) (c.set k x) := by
 obtain ⟨z, hz, h⟩ := h
 obtain rfl : z = x := Option.some.inj (hz.symm.trans hx)
 exact h.done hi hz he
theorem ins_dead {e : Nat × Int} (h : newB rows = none) (hb : newB rows = some e) : False := by rw [h] at hb; cases hb
theorem InsI.all (h : InsI rows i acc) (hi : rows.length ≤ i) (hb : newB rows = none) : acc = rowsB (kv rows) := by
 have hB := newB_ok hb
 have hp : acc.Perm rows := by have := h.perm; rwa [List.take_of_length_le hi] at this
 have hk : acc.map (·.1) = keysB (kv rows) := by
  refine pw_unique ?_ ?_ (srtI_pw _)
  ·exact (hp.map _).trans ((by rw [kv_keys] : ((kv rows).map (·.1)).Perm (rows.map (·.1))).symm.trans (srtI_perm _).symm)
  ·exact List.pairwise_map.2 h.srt
 unfold rowsB
 rw [← hk, List.map_map]
 refine (List.map_id acc).symm.trans (List.map_congr_left fun y hy => ?_)
 exact (lk_hit (kv_get hB.nodup (hp.mem_iff.1 hy))).symm
end
end Go.FK
end

/- === PRb2 === -/
section
/- PRb2: chapter 8: what the document's book answers: others, twins, matches, what it writes. My own text. -/
namespace Go.FK
open Go Go.RowKit
def pT (m : List (Int × Brk)) (r : Int) (x : Int × Int) : Bool := (gget m x.1).isSome && decide (x.1 = r)
def twF (ws : List Brk) (l : List (Int × Int)) (r : Int) : Int := match l.find? (pT (kv ws) r) with | some x => x.2 | none => r
def tldF (ws : List Brk) (l : List (Int × Int)) (r : Int) : Bool := (l.find? (pT (kv ws) r)).isSome
def mtcW (ws : List Brk) (wt : List (Int × Int)) (o c : Int) : Bool := decide ((brkF (kv ws) o).2 = 1) && (decide ((brkF (kv ws) c).2 = 2) && decide (twF ws wt (askB (brkF (kv ws) o).1) = twF ws wt (askB c)))
section
variable {ws : List Brk} {l wt : List (Int × Int)} {x : Int × Int} {i : Nat} {r : Int} {m : List (Int × Brk)}
theorem tf_on1 (h : (l.take i).find? (pT m r) = none) (hx : l[i]? = some x) (hn : (gget m x.1).isSome = false) : (l.take (i + 1)).find? (pT m r) = none := by
 rw [List.take_add_one, hx, Option.toList_some, List.find?_append, h]; unfold pT; simp [hn]
theorem tf_on2 (h : (l.take i).find? (pT m r) = none) (hx : l[i]? = some x) (hn : x.1 ≠ r) : (l.take (i + 1)).find? (pT m r) = none := by
 rw [List.take_add_one, hx, Option.toList_some, List.find?_append, h]; unfold pT; simp [hn]
theorem tf_hit (h : (l.take i).find? (pT m r) = none) (hx : l[i]? = some x) (h1 : (gget m x.1).isSome = true) (h2 : x.1 = r) : l.find? (pT m r) = some x := by
 have e : l = l.take i ++ (x :: l.drop (i + 1)) := by rw [← drop_at hx, List.take_append_drop]
 rw [e, List.find?_append, h, List.find?_cons_of_pos (by unfold pT; rw [h1, decide_eq_true h2]; rfl)]; rfl
theorem tf_end (h : (l.take i).find? (pT m r) = none) (hi : l.length ≤ i) : l.find? (pT m r) = none := by rwa [List.take_of_length_le hi] at h
theorem tw_hit (h : (l.take i).find? (pT (kv ws) r) = none) (hx : l[i]? = some x) (h1 : (gget (kv ws) x.1).isSome = true) (h2 : x.1 = r) : twF ws l r = x.2 := by unfold twF; rw [tf_hit h hx h1 h2]
theorem tw_end (h : (l.take i).find? (pT (kv ws) r) = none) (hi : l.length ≤ i) : twF ws l r = r := by unfold twF; rw [tf_end h hi]
theorem ask_ny (h1 : 0 ≤ r) (h2 : r ≤ 1114111) : askB r = r := ask_y (decide_eq_true ⟨h1, h2⟩)
theorem ask_nn (h : r < 0 ∨ 1114111 < r) : askB r = 65533 := ask_n (decide_eq_false (by omega))
theorem brk_look (m : List (Int × Brk)) (r : Int) : brkF m r = ((lookB m (askB r)).2.1, (lookB m (askB r)).2.2) := by
 unfold brkF lookB; cases gget m (askB r) <;> rfl
theorem mtw_1 {o c : Int} (h : (brkF (kv ws) o).2 ≠ 1) : mtcW ws wt o c = false := by unfold mtcW; simp [h]
theorem mtw_2 {o c : Int} (h : (brkF (kv ws) c).2 ≠ 2) : mtcW ws wt o c = false := by unfold mtcW; simp [h]
theorem mtw_3 {o c : Int} (h1 : (brkF (kv ws) o).2 = 1) (h2 : (brkF (kv ws) c).2 = 2) : mtcW ws wt o c = decide (twF ws wt (askB (brkF (kv ws) o).1) = twF ws wt (askB c)) := by unfold mtcW; simp [h1, h2]
end
theorem wrr_step {ws : List Brk} {acc : List UInt8} {x : Brk} {i : Nat} (h : acc = (ws.take i).flatMap lineB) (hx : ws[i]? = some x) : acc ++ (showF x.1).1 ++ [59, 32] ++ (showF x.2.1).1 ++ [59, 32] ++ letterS x.2.2 ++ [10] = (ws.take (i + 1)).flatMap lineB := by
 rw [List.take_add_one, hx, Option.toList_some, List.flatMap_append, ← h, List.flatMap_singleton]; unfold lineB; simp only [List.append_assoc]
theorem wrr_len {ws : List Brk} {acc : List UInt8} {i : Nat} (h : acc = (ws.take i).flatMap lineB) (hi : i ≤ ws.length) : acc.length ≤ 47 * i := by
 rw [h]; have := flatB_len (ws.take i); rw [List.length_take, Nat.min_eq_left hi] at this; exact this
structure RelB (rs : List (Int × Brk)) (ts : List (Int × Int)) (ws : List Brk) (wt : List (Int × Int)) : Prop where
  get : ∀ r, gget rs r = gget (kv ws) r
  rows : rowsB rs = ws
  twin : ∀ r, (gget ts r).getD r = twF ws wt r
section
variable {rs : List (Int × Brk)} {ts wt : List (Int × Int)} {ws : List Brk}
theorem RelB.brk (h : RelB rs ts ws wt) (r : Int) : brkF rs r = brkF (kv ws) r := by unfold brkF; rw [h.get]
theorem RelB.twn (h : RelB rs ts ws wt) (r : Int) : twnF ts r = twF ws wt (askB r) := h.twin (askB r)
theorem RelB.mtc (h : RelB rs ts ws wt) (o c : Int) : mtcF rs ts o c = mtcW ws wt o c := by
 unfold mtcF mtcW; rw [h.brk, h.brk, h.twn, h.twn]
theorem RelB.write (h : RelB rs ts ws wt) : writeB rs = ws.flatMap lineB := by unfold writeB; rw [h.rows]
theorem RelB.new {rows : List Brk} (h : newB rows = none) : RelB (kv rows) [] (rowsB (kv rows)) [] := by
 have hb := newB_ok h
 exact ⟨fun r => gget_perm (rowsB_perm hb).symm hb.nodup r, rfl, fun r => rfl⟩
theorem RelB.lt (h : RelB rs ts ws wt) {pre : List Brk} {x : Brk} (hp : pre ++ [x] <+: rowsB rs) : pre.length + 1 ≤ ws.length := by
 have := hp.length_le; rw [h.rows, List.length_append, List.length_singleton] at this; exact this
theorem RelB.at (h : RelB rs ts ws wt) {pre : List Brk} {x y : Brk} {k : Nat} (hp : pre ++ [x] <+: rowsB rs) (hk : k = pre.length) (hy : ws[k]? = some y) : x = y := by
 rw [h.rows] at hp
 obtain ⟨t, ht⟩ := hp
 rw [← ht, hk, List.append_assoc, List.getElem?_append_right (Nat.le_refl _), Nat.sub_self] at hy
 exact Option.some.inj hy
theorem brk_nb {x y : Brk} (h : (x.1 == y.1 && x.2.1 == y.2.1 && x.2.2 == y.2.2) = false) (e : x = y) : False := by subst e; simp at h
theorem RelB.len (h : RelB rs ts ws wt) : ws.length = rs.length := by rw [← h.rows, rowsB_len]
end
end Go.FK
end

/- === PRb3 === -/
section
/- PRb3: chapter 8: twins told to the document's book and to the program's. My own text. -/
namespace Go.FK
open Go Go.RowKit
section
variable {m m2 : List (Int × Brk)} {ws : List Brk} {l t : List (Int × Int)} {r : Int} {x : Int × Int}
end
section
variable {ws : List Brk} {l acc : List (Int × Int)} {x : Int × Int} {i : Nat}
abbrev BtI (ws : List Brk) (l : List (Int × Int)) (i : Nat) : Prop := BadI (kv ws) (twsM (kv ws) l) l i
end
end Go.FK
end

/- === PUtfM === -/
section
/- PUtf: the reference's reading of a character is the model's: no program in sight. -/
namespace Go.FK
open Go
theorem get!_mk (s : List UInt8) (i : Nat) : (⟨s.toArray⟩ : ByteArray).get! i = s.getD i 0 := by
 show s.toArray[i]! = _
 by_cases h : i < s.length
 ·simp [h, List.getD]
 ·simp [h, List.getD]; rfl
theorem dec_at (s : List UInt8) (p : Nat) : dec s p = Lib.decodeN (s.length - p) (s.getD p 0).toNat (s.getD (p + 1) 0).toNat (s.getD (p + 2) 0).toNat (s.getD (p + 3) 0).toNat := by
 unfold dec
 rw [Lib.decode_at, get!_mk, get!_mk, get!_mk, get!_mk, vL]
theorem atN_some {s : List UInt8} {p f i x : Nat} (h : p + i < s.length) : atN s p (f + 1) i x = if (s.getD (p + i) 0).toNat < 128 ∨ 191 < (s.getD (p + i) 0).toNat then (12, 0) else atN s p f (i + 1) (x * 64 + (s.getD (p + i) 0).toNat - 128) := by
 rw [atN, List.getElem?_eq_getElem h]
 simp [List.getD, h]
theorem atN_none {s : List UInt8} {p f i x : Nat} (h : s.length ≤ p + i) : atN s p (f + 1) i x = (11, 0) := by
 rw [atN, List.getElem?_eq_none h]
theorem vU {n k : Nat} (h : k ≠ 0) : finF n (k, 0) = (1, 65533, (k : Int)) := by unfold finF; rw [if_pos h]
theorem atN_zero (s : List UInt8) (p i x : Nat) : atN s p 0 i x = (0, x) := rfl
theorem fin_ok {n x m : Nat} (hm : leastT[n]? = some m) : finF n (0, x) = if x < m then (1, 65533, 13) else if 55296 ≤ x ∧ x ≤ 57343 then (1, 65533, 14) else if 1114111 < x then (1, 65533, 15) else (n, (x : Int), 0) := by
 unfold finF
 rw [List.getD_eq_getElem?_getD, hm]
 rfl
set_option maxRecDepth 100000 in
theorem at_dec (s : List UInt8) (p : Nat) (h : p < s.length) : (atF s p).1 = (dec s p).2 ∧ (atF s p).2.1 = ((dec s p).1 : Int) := by
 rw [dec_at]
 unfold atF
 have q := (s.getD p 0).toNat_lt
 have t := (s.getD (p + 1) 0).toNat_lt
 have r := (s.getD (p + 2) 0).toNat_lt
 have u := (s.getD (p + 3) 0).toNat_lt
 have d : ∀ f x, p + 1 < s.length → atN s p (f + 1) 1 x = _ := fun f x hh => atN_some hh
 have e : ∀ f x, p + 2 < s.length → atN s p (f + 1) 2 x = _ := fun f x hh => atN_some hh
 have g : ∀ f x, p + 3 < s.length → atN s p (f + 1) 3 x = _ := fun f x hh => atN_some hh
 generalize (s.getD p 0).toNat = b0 at *
 generalize (s.getD (p + 1) 0).toNat = b1 at *
 generalize (s.getD (p + 2) 0).toNat = b2 at *
 generalize (s.getD (p + 3) 0).toNat = b3 at *
 simp only
 have j : b0 &&& 127 = b0 % 128 := Nat.and_two_pow_sub_one_eq_mod b0 7
 have n : b0 &&& 31 = b0 % 32 := Nat.and_two_pow_sub_one_eq_mod b0 5
 have o : b0 &&& 15 = b0 % 16 := Nat.and_two_pow_sub_one_eq_mod b0 4
 have k : b0 &&& 7 = b0 % 8 := Nat.and_two_pow_sub_one_eq_mod b0 3
 rcases (by omega : b0 < 128 ∨ (128 ≤ b0 ∧ b0 < 192 ∨ 247 < b0) ∨ (192 ≤ b0 ∧ b0 < 224) ∨ (224 ≤ b0 ∧ b0 < 240) ∨ (240 ≤ b0 ∧ b0 ≤ 247)) with hb | hb | hb | hb | hb
 ·have hl : longN (b0 : Int) = 1 := by unfold longN; rw [if_pos (by omega)]
  rw [hl, if_neg (by decide)]
  simp only [atG, atN, Nat.sub_self, bitsT, List.getD_cons_succ, List.getD_cons_zero, j, finF, leastT, Lib.decodeN, hb, if_true]
  rw [if_neg (by simp), if_neg (by omega), if_neg (by omega), if_neg (by omega)]
  exact ⟨rfl, by simp only; omega⟩
 ·have hl : longN (b0 : Int) = 0 := by unfold longN; rw [if_neg (by omega), if_pos (by omega)]
  rw [hl, if_pos rfl]
  unfold Lib.decodeN
  rw [if_neg (by omega), if_neg (by omega), if_neg (by omega), if_neg (by omega)]
  exact ⟨rfl, rfl⟩
 ·have hl : longN (b0 : Int) = 2 := by unfold longN; rw [if_neg (by omega), if_neg (by omega), if_pos (by omega)]
  rw [hl, if_neg (by decide)]
  simp only [atG, Nat.reduceSub, bitsT, List.getD_cons_succ, List.getD_cons_zero, n, Lib.decodeN]
  by_cases b : p + 1 < s.length
  ·rw [d _ _ b]
   by_cases i : b1 < 128 ∨ 191 < b1
   ·rw [if_pos i, vU (by decide), if_neg (by omega), if_neg (by omega), if_neg (by omega), if_neg (by omega)]
    exact ⟨rfl, rfl⟩
   ·rw [if_neg i, if_neg (by omega), if_pos (by omega)]
    rw [atN_zero, fin_ok (m := 128) rfl]
    repeat' split
    all_goals first | (exfalso; omega) | exact ⟨rfl, rfl⟩ | exact ⟨rfl, by simp only; omega⟩
  ·rw [atN_none (by omega), vU (by decide), if_neg (by omega), if_neg (by omega), if_neg (by omega), if_neg (by omega)]
   exact ⟨rfl, rfl⟩
 ·have hl : longN (b0 : Int) = 3 := by unfold longN; rw [if_neg (by omega), if_neg (by omega), if_neg (by omega), if_pos (by omega)]
  rw [hl, if_neg (by decide)]
  simp only [atG, Nat.reduceSub, bitsT, List.getD_cons_succ, List.getD_cons_zero, o, Lib.decodeN]
  by_cases b : p + 1 < s.length ∧ ¬ (b1 < 128 ∨ 191 < b1)
  ·rw [d _ _ b.1, if_neg b.2]
   by_cases c : p + 2 < s.length ∧ ¬ (b2 < 128 ∨ 191 < b2)
   ·rw [e _ _ c.1, if_neg c.2, if_neg (by omega), if_neg (by omega), if_pos (by omega)]
    rw [atN_zero, fin_ok (m := 2048) rfl]
    repeat' split
    all_goals first | (exfalso; omega) | exact ⟨rfl, rfl⟩ | exact ⟨rfl, by simp only; omega⟩
   ·by_cases a : p + 2 < s.length
    ·rw [e _ _ a, if_pos (by omega), vU (by decide), if_neg (by omega), if_neg (by omega), if_neg (by omega), if_neg (by omega)]
     exact ⟨rfl, rfl⟩
    ·rw [atN_none (by omega), vU (by decide), if_neg (by omega), if_neg (by omega), if_neg (by omega), if_neg (by omega)]
     exact ⟨rfl, rfl⟩
  ·by_cases a : p + 1 < s.length
   ·rw [d _ _ a, if_pos (by omega), vU (by decide), if_neg (by omega), if_neg (by omega), if_neg (by omega), if_neg (by omega)]
    exact ⟨rfl, rfl⟩
   ·rw [atN_none (by omega), vU (by decide), if_neg (by omega), if_neg (by omega), if_neg (by omega), if_neg (by omega)]
    exact ⟨rfl, rfl⟩
 ·have hl : longN (b0 : Int) = 4 := by unfold longN; rw [if_neg (by omega), if_neg (by omega), if_neg (by omega), if_neg (by omega)]
  rw [hl, if_neg (by decide)]
  simp only [atG, Nat.reduceSub, bitsT, List.getD_cons_succ, List.getD_cons_zero, k, Lib.decodeN]
  by_cases b : p + 1 < s.length ∧ ¬ (b1 < 128 ∨ 191 < b1)
  ·rw [d _ _ b.1, if_neg b.2]
   by_cases c : p + 2 < s.length ∧ ¬ (b2 < 128 ∨ 191 < b2)
   ·rw [e _ _ c.1, if_neg c.2]
    by_cases a : p + 3 < s.length ∧ ¬ (b3 < 128 ∨ 191 < b3)
    ·rw [g _ _ a.1, if_neg a.2, if_neg (by omega), if_neg (by omega), if_neg (by omega), if_pos (by omega)]
     rw [atN_zero, fin_ok (m := 65536) rfl]
     repeat' split
     all_goals first | (exfalso; omega) | exact ⟨rfl, rfl⟩ | exact ⟨rfl, by simp only; omega⟩
    ·by_cases l : p + 3 < s.length
     ·rw [g _ _ l, if_pos (by omega), vU (by decide), if_neg (by omega), if_neg (by omega), if_neg (by omega), if_neg (by omega)]
      exact ⟨rfl, rfl⟩
     ·rw [atN_none (by omega), vU (by decide), if_neg (by omega), if_neg (by omega), if_neg (by omega), if_neg (by omega)]
      exact ⟨rfl, rfl⟩
   ·by_cases a : p + 2 < s.length
    ·rw [e _ _ a, if_pos (by omega), vU (by decide), if_neg (by omega), if_neg (by omega), if_neg (by omega), if_neg (by omega)]
     exact ⟨rfl, rfl⟩
    ·rw [atN_none (by omega), vU (by decide), if_neg (by omega), if_neg (by omega), if_neg (by omega), if_neg (by omega)]
     exact ⟨rfl, rfl⟩
  ·by_cases a : p + 1 < s.length
   ·rw [d _ _ a, if_pos (by omega), vU (by decide), if_neg (by omega), if_neg (by omega), if_neg (by omega), if_neg (by omega)]
    exact ⟨rfl, rfl⟩
   ·rw [atN_none (by omega), vU (by decide), if_neg (by omega), if_neg (by omega), if_neg (by omega), if_neg (by omega)]
    exact ⟨rfl, rfl⟩
theorem spots_runes (s : List UInt8) : ∀ (n p : Nat), (spotsN s n p).map (fun x => x.2.2.1) = runesN s n p
 | 0, _ => rfl
 | n + 1, p => by
  unfold spotsN runesN
  by_cases h : p < s.length
  ·rw [if_pos h, if_pos h, List.map_cons, spots_runes s n, (at_dec s p h).1]
   simp only
   rw [(at_dec s p h).2]
  ·rw [if_neg h, if_neg h]; rfl
theorem rrunes_eq (s : List UInt8) : rrunes s = runesFrom s 0 := spots_runes s _ _
theorem runesN_len (s : List UInt8) : ∀ (n p : Nat), (runesN s n p).length ≤ n
 | 0, _ => by simp [runesN]
 | n + 1, p => by
  unfold runesN
  split
  ·simp [runesN_len s n]
  ·simp
theorem runes_len (s : List UInt8) : (runesFrom s 0).length ≤ s.length := runesN_len s _ _
theorem runesN_range (s : List UInt8) : ∀ (n p : Nat), ∀ x ∈ runesN s n p, 0 ≤ x ∧ x ≤ 2147483647
 | 0, _ => by simp [runesN]
 | n + 1, p => by
  unfold runesN
  split
  ·intro x hx
   rcases List.mem_cons.1 hx with rfl | hx
   ·have := dec_le s p; omega
   ·exact runesN_range s n _ x hx
  ·simp
theorem loose_range {s : List UInt8} : ∀ x ∈ looseL (runesFrom s 0), -2147483648 ≤ x ∧ x ≤ 2147483647 := by
 intro x hx
 simp only [looseL, List.mem_map, List.mem_filter] at hx
 obtain ⟨y, ⟨hy, _⟩, rfl⟩ := hx
 have := runesN_range s _ _ y hy
 unfold lowerI
 split <;> omega
end Go.FK
end

/- === PRb4 === -/
section
/- PRb4: chapter 8: the document's answer for a text: a row out of a line's fields; rows one by one; what is answered. My own text. -/
namespace Go.FK
open Go Go.RowKit
theorem cap_row {α : Type} {w : World} {B E k : Nat} {enc : α → List Value} {v : Value} {xs : List α} (h : Row w B E k enc v xs) : CapOk v := by
 intro a n c e
 rcases h.shape with ⟨_, b⟩ | ⟨g, cap, b, d⟩
 ·rw [b] at e; cases e; exact Nat.le_refl _
 ·rw [b] at e; cases e; exact d
theorem looseLits : looseS (letterS 0) = [110] ∧ looseS (letterS 1) = [111] ∧ looseS (letterS 2) = [99] ∧ looseS [78, 111, 110, 101] = [110, 111, 110, 101] ∧ looseS [79, 112, 101, 110] = [111, 112, 101, 110] ∧ looseS [67, 108, 111, 115, 101] = [99, 108, 111, 115, 101] := by
 refine ⟨by kernel_rfl, by kernel_rfl, by kernel_rfl, by kernel_rfl, by kernel_rfl, by kernel_rfl⟩
theorem qB (s : List UInt8) : sideF s = if looseS s = [110] then (0, 0) else if looseS s = [110, 111, 110, 101] then (0, 0) else if looseS s = [111] then (1, 0) else if looseS s = [111, 112, 101, 110] then (1, 0) else if looseS s = [99] then (2, 0) else if looseS s = [99, 108, 111, 115, 101] then (2, 0) else (0, 51) := by
 unfold sideF
 obtain ⟨d, i, e, j, g, c⟩ := looseLits
 rw [wV (k := 0) rfl, wV (k := 1) rfl, wV (k := 2) rfl, sideFrom_end (k := 3) (by omega)]
 have b : ((0 : Nat) : Int) = 0 := rfl
 have h : ((0 + 1 : Nat) : Int) = 1 := rfl
 have f : ((1 + 1 : Nat) : Int) = 2 := rfl
 have a : ((1 : Nat) : Int) = 1 := rfl
 simp only [alikeB, b, h, f, a, d, i, e, j, g, c, decide_eq_true_eq]
def rowR (f : List (List UInt8)) : Brk × Int :=
  if f.length ≠ 3 then ((0, 0, 0), 80)
  else if (hexF (f.getD 0 [])).2 ≠ 0 then ((0, 0, 0), (hexF (f.getD 0 [])).2)
  else if (hexF (f.getD 1 [])).2 ≠ 0 then ((0, 0, 0), (hexF (f.getD 1 [])).2)
  else (((hexF (f.getD 0 [])).1, (hexF (f.getD 1 [])).1, (sideF (f.getD 2 [])).1), (sideF (f.getD 2 [])).2)
section
variable {f : List (List UInt8)} {a b c : List UInt8}
theorem rr_few (hl : f.length ≠ 3) : rowR f = ((0, 0, 0), 80) := if_pos hl
theorem rr_a (hl : f.length = 3) (ha : f[0]? = some a) (h1 : (hexF a).2 ≠ 0) : rowR f = ((0, 0, 0), (hexF a).2) := by
 unfold rowR; rw [if_neg (by omega), qO ha, if_pos h1]
theorem rr_b (hl : f.length = 3) (ha : f[0]? = some a) (h1 : (hexF a).2 = 0) (hb : f[1]? = some b) (h2 : (hexF b).2 ≠ 0) : rowR f = ((0, 0, 0), (hexF b).2) := by
 unfold rowR; rw [if_neg (by omega), qO ha, if_neg (by omega), qO hb, if_pos h2]
theorem rr_s (hl : f.length = 3) (ha : f[0]? = some a) (h1 : (hexF a).2 = 0) (hb : f[1]? = some b) (h2 : (hexF b).2 = 0) (hc : f[2]? = some c) : rowR f = (((hexF a).1, (hexF b).1, (sideF c).1), (sideF c).2) := by
 unfold rowR; rw [if_neg (by omega), qO ha, if_neg (by omega), qO hb, if_neg (by omega), qO hc]
theorem rr_bad (h : (rowR f).2 ≠ 0) : readB 1 f = ((0, 0, 0), false, (rowR f).2) := by
 unfold rowR at h ⊢; unfold readB
 by_cases a : f.length ≠ 3
 ·rw [if_pos a] at h ⊢; rw [if_neg (by decide), if_pos rfl, if_pos a]
 ·rw [if_neg a] at h ⊢; rw [if_neg (by decide), if_pos rfl, if_neg a]
  by_cases c : (hexF (f.getD 0 [])).2 ≠ 0
  ·rw [if_pos c, if_pos c]
  ·rw [if_neg c] at h ⊢; rw [if_neg c]
   by_cases b : (hexF (f.getD 1 [])).2 ≠ 0
   ·rw [if_pos b, if_pos b]
   ·rw [if_neg b] at h ⊢; rw [if_neg b, if_pos h]
theorem rr_ok (h : (rowR f).2 = 0) : readB 1 f = ((rowR f).1, true, 0) := by
 unfold rowR at h ⊢; unfold readB
 by_cases c : f.length ≠ 3
 ·rw [if_pos c] at h; cases h
 ·rw [if_neg c] at h ⊢; rw [if_neg (by decide), if_pos rfl, if_neg c]
  by_cases b : (hexF (f.getD 0 [])).2 ≠ 0
  ·rw [if_pos b] at h; exact absurd h b
  ·rw [if_neg b] at h ⊢; rw [if_neg b]
   by_cases a : (hexF (f.getD 1 [])).2 ≠ 0
   ·rw [if_pos a] at h; exact absurd h a
   ·rw [if_neg a] at h ⊢; rw [if_neg a, if_neg (by omega)]
end
section
variable {rows done l : List Brk} {y : Brk} {i : Nat}
theorem fst_snoc : ∀ (l done : List Brk) (i : Nat), fstB done l i = none → fstB done (l ++ [y]) i = if addE (kv (done ++ l)) y = 0 then none else some (i + l.length, addE (kv (done ++ l)) y)
 | [], done, i, _ => by
  rw [List.nil_append, List.append_nil, fstB]
  unfold addE
  by_cases a : mayR y = false
  ·rw [if_pos a, if_pos a, if_neg (by decide)]; rfl
  ·rw [if_neg a, if_neg a]
   by_cases b : (gget (kv done) y.1).isSome = true
   ·rw [if_pos b, if_pos b, if_neg (by decide)]; rfl
   ·rw [if_neg b, if_neg b, if_pos rfl, fstB]
 | z :: l, done, i, h => by
  rw [fstB] at h
  by_cases a : mayR z = false
  ·rw [if_pos a] at h; cases h
  ·rw [if_neg a] at h
   by_cases b : (gget (kv done) z.1).isSome = true
   ·rw [if_pos b] at h; cases h
   ·rw [if_neg b] at h
    have := fst_snoc l (done ++ [z]) (i + 1) h
    rw [List.cons_append, fstB, if_neg a, if_neg b, this, List.append_assoc, List.singleton_append, List.length_cons, show i + 1 + l.length = i + (l.length + 1) by omega]
theorem fs_snoc (h : fsE rows = 0) : fsE (rows ++ [y]) = addE (kv rows) y := by
 have := fst_snoc (y := y) rows [] 0 (fs_none h)
 rw [List.nil_append] at this
 unfold fsE; rw [this]
 by_cases a : addE (kv rows) y = 0
 ·rw [if_pos a, a]; rfl
 ·rw [if_neg a]; rfl
theorem fs_nil : fsE [] = 0 := rfl
theorem newI_lt (hf : fsE rows = 0) (h : newB rows ≠ none) : newI rows < rows.length ∧ newE rows = 82 ∧ idxL (kv rows) rows = (newI rows : Int) := by
 cases hq : loneI (kv rows) rows 0 with
 | none => exfalso; apply h; unfold newB; rw [fs_none hf]; simp only; rw [hq]; rfl
 | some j =>
  have e : newB rows = some (j, 82) := by unfold newB; rw [fs_none hf]; simp only; rw [hq]; rfl
  have := loneI_lt hq
  have a := newI_of e
  refine ⟨by rw [a.1]; omega, a.2, ?_⟩
  unfold idxL; rw [hq, a.1]
theorem idxL_neg (h : newB rows = none) : idxL (kv rows) rows < 0 := by
 cases hq : loneI (kv rows) rows 0 with
 | none => unfold idxL; rw [hq]; decide
 | some j =>
  exfalso
  unfold newB at h
  cases hz : fstB [] rows 0 with
  | some r => rw [hz] at h; cases h
  | none => rw [hz] at h; simp only at h; rw [hq] at h; cases h
end
section
variable {s : List UInt8} {i : Nat} {p : Nat × Nat × Nat} {rows : List Brk} {ats : List Int}
abbrev pcT (s : List UInt8) (p : Nat × Nat × Nat) : List UInt8 := (s.take p.2.1).drop p.1
theorem pr_pre (hp : (pcsR s)[i]? = some p) : (toldF s).take i ++ [(((i + 1 : Nat) : Int), pcT s p)] <+: toldF s := by
 rw [← take_at (told_piece hp)]; exact take_pre _ _
theorem pr_scan (h : ParI ((toldF s).take i) rows ats) (hp : (pcsR s)[i]? = some p) (h1 : (scanF ((i + 1 : Nat) : Int) (pcT s p)).2 ≠ 0) : (parF s).2 = (((i + 1 : Nat) : Int), (scanF ((i + 1 : Nat) : Int) (pcT s p)).2) := par_scan h (pr_pre hp) h1
theorem uG (h : ParI ((toldF s).take i) rows ats) (hp : (pcsR s)[i]? = some p) (h1 : (scanF ((i + 1 : Nat) : Int) (pcT s p)).2 = 0) (hk : (scanF ((i + 1 : Nat) : Int) (pcT s p)).1.2.1 = 2) : (parF s).2 = (((i + 1 : Nat) : Int), 80) := by
 have e : lnB (((i + 1 : Nat) : Int), pcT s p) = ((0, 0, 0), false, 80) := uI hk
 have := par_read h (pr_pre hp) h1 (by rw [e]; decide)
 rw [e] at this; exact this
theorem pr_skip (h : ParI ((toldF s).take i) rows ats) (hp : (pcsR s)[i]? = some p) (h1 : (scanF ((i + 1 : Nat) : Int) (pcT s p)).2 = 0) (hk : (scanF ((i + 1 : Nat) : Int) (pcT s p)).1.2.1 ≠ 2) (hk1 : (scanF ((i + 1 : Nat) : Int) (pcT s p)).1.2.1 ≠ 1) : ParI ((toldF s).take (i + 1)) rows ats := by
 have e : lnB (((i + 1 : Nat) : Int), pcT s p) = ((0, 0, 0), false, 0) := rd_none hk hk1
 rw [take_at (told_piece hp)]
 exact h.skip h1 (by rw [e]) (by rw [e])
theorem pr_row (h : ParI ((toldF s).take i) rows ats) (hp : (pcsR s)[i]? = some p) (h1 : (scanF ((i + 1 : Nat) : Int) (pcT s p)).2 = 0) (hk : (scanF ((i + 1 : Nat) : Int) (pcT s p)).1.2.1 = 1) (hr : (rowR (scanF ((i + 1 : Nat) : Int) (pcT s p)).1.2.2.2.1).2 ≠ 0) : (parF s).2 = (((i + 1 : Nat) : Int), (rowR (scanF ((i + 1 : Nat) : Int) (pcT s p)).1.2.2.2.1).2) := by
 have e : lnB (((i + 1 : Nat) : Int), pcT s p) = ((0, 0, 0), false, (rowR (scanF ((i + 1 : Nat) : Int) (pcT s p)).1.2.2.2.1).2) := by
  have := rr_bad hr; rw [← hk] at this; exact this
 have := par_read h (pr_pre hp) h1 (by rw [e]; exact hr)
 rw [e] at this; exact this
theorem pr_ln (hk : (scanF ((i + 1 : Nat) : Int) (pcT s p)).1.2.1 = 1) (hr : (rowR (scanF ((i + 1 : Nat) : Int) (pcT s p)).1.2.2.2.1).2 = 0) : lnB (((i + 1 : Nat) : Int), pcT s p) = ((rowR (scanF ((i + 1 : Nat) : Int) (pcT s p)).1.2.2.2.1).1, true, 0) := by
 have := rr_ok hr; rw [← hk] at this; exact this
theorem uJ (h : ParI ((toldF s).take i) rows ats) (hf : fsE rows = 0) (hp : (pcsR s)[i]? = some p) (h1 : (scanF ((i + 1 : Nat) : Int) (pcT s p)).2 = 0) (hk : (scanF ((i + 1 : Nat) : Int) (pcT s p)).1.2.1 = 1) (hr : (rowR (scanF ((i + 1 : Nat) : Int) (pcT s p)).1.2.2.2.1).2 = 0) {y : Brk} (hy : y = (rowR (scanF ((i + 1 : Nat) : Int) (pcT s p)).1.2.2.2.1).1) (hn : fsE (rows ++ [y]) ≠ 0) : (parF s).2 = (((i + 1 : Nat) : Int), fsE (rows ++ [y])) := by
 have e := pr_ln hk hr
 subst hy
 rw [fs_snoc hf] at hn ⊢
 have := par_add h (pr_pre hp) h1 (by rw [e]) (by rw [e]) (by rw [e]; exact hn)
 rw [e] at this; exact this
theorem pr_add (h : ParI ((toldF s).take i) rows ats) (hf : fsE rows = 0) (hp : (pcsR s)[i]? = some p) (h1 : (scanF ((i + 1 : Nat) : Int) (pcT s p)).2 = 0) (hk : (scanF ((i + 1 : Nat) : Int) (pcT s p)).1.2.1 = 1) (hr : (rowR (scanF ((i + 1 : Nat) : Int) (pcT s p)).1.2.2.2.1).2 = 0) {y : Brk} (hy : y = (rowR (scanF ((i + 1 : Nat) : Int) (pcT s p)).1.2.2.2.1).1) (hn : fsE (rows ++ [y]) = 0) : ParI ((toldF s).take (i + 1)) (rows ++ [y]) (ats ++ [((i + 1 : Nat) : Int)]) := by
 have e := pr_ln hk hr
 subst hy
 rw [fs_snoc hf] at hn
 have := h.add (x := (((i + 1 : Nat) : Int), pcT s p)) h1 (by rw [e]) (by rw [e]) (by rw [e]; exact hn)
 rw [e] at this
 rw [take_at (told_piece hp)]; exact this
theorem pr_new (h : ParI ((toldF s).take i) rows ats) (hi : (pcsR s).length ≤ i) (hb : newB rows = none) : parF s = ((rows, ats), 0, 0) := by
 rw [told_take hi] at h; exact par_ok h (idxL_neg hb)
theorem pr_lone (h : ParI ((toldF s).take i) rows ats) (hf : fsE rows = 0) (hi : (pcsR s).length ≤ i) (hb : newB rows ≠ none) {y : Int} (hy : ats[newI rows]? = some y) : (parF s).2 = (y, newE rows) := by
 rw [told_take hi] at h
 have e := newI_lt hf hb
 have := par_lone3 h rfl (by rw [e.2.2]; omega) (by rw [e.2.2, Int.toNat_natCast]; exact hy)
 rw [this, e.2.1]
theorem pr_nob (h : ParI ((toldF s).take i) rows ats) (hf : fsE rows = 0) (hi : (pcsR s).length ≤ i) (hb : newB rows ≠ none) : (parF s).2.2 ≠ 0 := by
 rw [told_take hi] at h
 have e := newI_lt hf hb
 rw [par_lone h (by rw [e.2.2]; omega)]; exact (by decide : (82 : Int) ≠ 0)
theorem par_rowsOk : ∀ (l : List (Int × List UInt8)) (rows : List Brk) (ats : List Int), fsE rows = 0 → fsE (parB l rows ats).1.1 = 0
 | [], rows, ats, h => h
 | x :: l, rows, ats, h => by
  rw [parB]
  by_cases b : (scanF x.1 x.2).2 ≠ 0
  ·rw [if_pos b]; exact h
  ·rw [if_neg b]
   by_cases c : (lnB x).2.2 ≠ 0
   ·rw [if_pos c]; exact h
   ·rw [if_neg c]
    by_cases d : (lnB x).2.1 = false
    ·rw [if_pos d]; exact par_rowsOk l rows ats h
    ·rw [if_neg d]
     by_cases a : addE (kv rows) (lnB x).1 ≠ 0
     ·rw [if_pos a]; exact h
     ·rw [if_neg a]; exact par_rowsOk l _ _ (by rw [fs_snoc h]; exact Classical.not_not.1 a)
theorem par_newB (h : (parF s).2.2 = 0) : newB (parF s).1.1 = none := by
 have hf := par_rowsOk (toldF s) [] [] fs_nil
 by_cases a : (parB (toldF s) [] []).2.2 ≠ 0
 ·have e : parF s = parB (toldF s) [] [] := by unfold parF; rw [if_pos a]
  rw [e] at h; exact absurd h a
 ·cases hq : loneI (kv (parB (toldF s) [] []).1.1) (parB (toldF s) [] []).1.1 0 with
  | some j =>
   have e : parF s = ((parB (toldF s) [] []).1, (parB (toldF s) [] []).1.2.getD j 0, 82) := by unfold parF; rw [if_neg a, hq]
   rw [e] at h; cases h
  | none =>
   have e : parF s = parB (toldF s) [] [] := by unfold parF; rw [if_neg a, hq]
   rw [e]; unfold newB; rw [fs_none hf]; simp only; rw [hq]; rfl
end
end Go.FK
end

/- === FKaq === -/
section
/- FKaq: short laws for the walks' texts: what can be read off is read off, closed facts are defaults. My own text. -/
namespace Go.FK
open Go Go.RowKit
theorem zk {p : Prop} (h : p := by kernel_rfl) : p := h
theorem zo {p : Prop} (h : p := by omega) : p := h
theorem za {p : Prop} (h : p := by assumption) : p := h
theorem zl {p : Prop} (h : p := by (simp only [List.length_append, List.length_take, List.length_drop, List.length_replicate, List.length_cons, List.length_nil] <;> omega)) : p := h
@[reducible] def pt (b o : Nat) : Value := .pointer (some ⟨b, o, none⟩)
@[reducible] def I8 (x : Int) : Value := .int .i8 x
@[reducible] def I3 (x : Int) : Value := .int .i32 x
@[reducible] def I6 (x : Int) : Value := .int .i64 x
@[reducible] def U8 (x : Int) : Value := .int .u8 x
@[reducible] def N6 (x : Nat) : Value := .int .i64 (x : Int)
@[reducible] def vB (b : Bool) : Value := .bool b
@[reducible] def vF (b : Nat) : Value := .float .f64 b
@[reducible] def vx (v : Value) : Value := v
@[reducible] def ob (l : List Value) (E : TypeId) : Obj := .cells l.toArray E (0, 0)
theorem _root_.Go.RowKit.Below.tr {w a b : World} (hb : Below w.heap.size w a) (h : Below a.heap.size a b) : Below w.heap.size w b := hb.trans (h.mono hb.size)
theorem _root_.Go.RowKit.Below.tg {w a b : World} {v : Value} {B E k m : Nat} {xs : List Value} (hb : Below B w a) (hs : B ≤ a.heap.size) (hg : a.grownBy b v.ownBlock) (h : a.ownsRow B E k v m xs) : Below B w b :=
 hb.grown hg hs (fun k hk => (World.ownsRow.lt h k hk).1)
theorem New.ge {w a b : World} {k : Nat} {o : Obj} (h : New a b k o) (hb : w.heap.size ≤ a.heap.size) : w.heap.size ≤ k := by rw [h.num]; exact hb
theorem NE_ge {a b k : Nat} (h : a < k) (g : k ≤ b) : NE a b := by show _ ≠ _; omega
theorem yY {w w' : World} {a b : Nat} {o : Obj} (h : a < w.heap.size) (hN : New w w' b o) : NE a b := by have := hN.num; show _ ≠ _; omega
section ops
variable {r : Option Nat} {P : Program} {n : Nat} {Q : Post} {s : Fm} {w : World} {ops : Array Oper} {rest : List Oper}
variable {d : Option Tmp} {ty : TypeId} {pos : String} {af : Array Edge}
variable {t yt : TypeId} {X Y : Operand}
theorem nEq (x y : Nat) (ht : x = y → L r P n ops Q rest (s.put d (.bool true)) w) (hf : x ≠ y → L r P n ops Q rest (s.put d (.bool false)) w) (hx : s.ev n X = .int .i64 x := by kernel_rfl) (hy : s.ev n Y = .int .i64 y := by kernel_rfl) : L r P n ops Q (⟨d, .binOp .eql t X Y yt, ty, pos, af, none⟩ :: rest) s w :=
 xJ .i64 x y (x = y) rfl (xK x y) hx hy ht hf
theorem nNe (x y : Nat) (ht : x ≠ y → L r P n ops Q rest (s.put d (.bool true)) w) (hf : x = y → L r P n ops Q rest (s.put d (.bool false)) w) (hx : s.ev n X = .int .i64 x := by kernel_rfl) (hy : s.ev n Y = .int .i64 y := by kernel_rfl) : L r P n ops Q (⟨d, .binOp .neq t X Y yt, ty, pos, af, none⟩ :: rest) s w :=
 xJ .i64 x y (x ≠ y) rfl (cmpN_ne x y) hx hy ht (fun h => hf (by omega))
theorem nLt (x y : Nat) (ht : x < y → L r P n ops Q rest (s.put d (.bool true)) w) (hf : y ≤ x → L r P n ops Q rest (s.put d (.bool false)) w) (hx : s.ev n X = .int .i64 x := by kernel_rfl) (hy : s.ev n Y = .int .i64 y := by kernel_rfl) : L r P n ops Q (⟨d, .binOp .lss t X Y yt, ty, pos, af, none⟩ :: rest) s w :=
 xJ .i64 x y (x < y) rfl (cmpN_lt x y) hx hy ht (fun h => hf (by omega))
theorem nLe (x y : Nat) (ht : x ≤ y → L r P n ops Q rest (s.put d (.bool true)) w) (hf : y < x → L r P n ops Q rest (s.put d (.bool false)) w) (hx : s.ev n X = .int .i64 x := by kernel_rfl) (hy : s.ev n Y = .int .i64 y := by kernel_rfl) : L r P n ops Q (⟨d, .binOp .leq t X Y yt, ty, pos, af, none⟩ :: rest) s w :=
 xJ .i64 x y (x ≤ y) rfl (wN x y) hx hy ht (fun h => hf (by omega))
theorem nGt (x y : Nat) (ht : y < x → L r P n ops Q rest (s.put d (.bool true)) w) (hf : x ≤ y → L r P n ops Q rest (s.put d (.bool false)) w) (hx : s.ev n X = .int .i64 x := by kernel_rfl) (hy : s.ev n Y = .int .i64 y := by kernel_rfl) : L r P n ops Q (⟨d, .binOp .gtr t X Y yt, ty, pos, af, none⟩ :: rest) s w :=
 xJ .i64 x y (y < x) rfl (cmpN_gt x y) hx hy ht (fun h => hf (by omega))
theorem nGe (x y : Nat) (ht : y ≤ x → L r P n ops Q rest (s.put d (.bool true)) w) (hf : x < y → L r P n ops Q rest (s.put d (.bool false)) w) (hx : s.ev n X = .int .i64 x := by kernel_rfl) (hy : s.ev n Y = .int .i64 y := by kernel_rfl) : L r P n ops Q (⟨d, .binOp .geq t X Y yt, ty, pos, af, none⟩ :: rest) s w :=
 xJ .i64 x y (y ≤ x) rfl (qZ x y) hx hy ht (fun h => hf (by omega))
theorem qA (k : IntKind) (x y : Int) (ht : x = y → L r P n ops Q rest (s.put d (.bool true)) w) (hf : x ≠ y → L r P n ops Q rest (s.put d (.bool false)) w) (hx : s.ev n X = .int k x := by kernel_rfl) (hy : s.ev n Y = .int k y := by kernel_rfl) : L r P n ops Q (⟨d, .binOp .eql t X Y yt, ty, pos, af, none⟩ :: rest) s w :=
 xJ k x y (x = y) rfl (cmp_eq x y) hx hy ht hf
theorem zNe (k : IntKind) (x y : Int) (ht : x ≠ y → L r P n ops Q rest (s.put d (.bool true)) w) (hf : x = y → L r P n ops Q rest (s.put d (.bool false)) w) (hx : s.ev n X = .int k x := by kernel_rfl) (hy : s.ev n Y = .int k y := by kernel_rfl) : L r P n ops Q (⟨d, .binOp .neq t X Y yt, ty, pos, af, none⟩ :: rest) s w :=
 xJ k x y (x ≠ y) rfl (cmp_ne x y) hx hy ht (fun h => hf (by omega))
theorem zLt (k : IntKind) (x y : Int) (ht : x < y → L r P n ops Q rest (s.put d (.bool true)) w) (hf : y ≤ x → L r P n ops Q rest (s.put d (.bool false)) w) (hx : s.ev n X = .int k x := by kernel_rfl) (hy : s.ev n Y = .int k y := by kernel_rfl) : L r P n ops Q (⟨d, .binOp .lss t X Y yt, ty, pos, af, none⟩ :: rest) s w :=
 xJ k x y (x < y) rfl (cmp_lt x y) hx hy ht (fun h => hf (by omega))
theorem zLe (k : IntKind) (x y : Int) (ht : x ≤ y → L r P n ops Q rest (s.put d (.bool true)) w) (hf : y < x → L r P n ops Q rest (s.put d (.bool false)) w) (hx : s.ev n X = .int k x := by kernel_rfl) (hy : s.ev n Y = .int k y := by kernel_rfl) : L r P n ops Q (⟨d, .binOp .leq t X Y yt, ty, pos, af, none⟩ :: rest) s w :=
 xJ k x y (x ≤ y) rfl (cmp_le x y) hx hy ht (fun h => hf (by omega))
theorem zGt (k : IntKind) (x y : Int) (ht : y < x → L r P n ops Q rest (s.put d (.bool true)) w) (hf : x ≤ y → L r P n ops Q rest (s.put d (.bool false)) w) (hx : s.ev n X = .int k x := by kernel_rfl) (hy : s.ev n Y = .int k y := by kernel_rfl) : L r P n ops Q (⟨d, .binOp .gtr t X Y yt, ty, pos, af, none⟩ :: rest) s w :=
 xJ k x y (y < x) rfl (cmp_gt x y) hx hy ht (fun h => hf (by omega))
theorem zGe (k : IntKind) (x y : Int) (ht : y ≤ x → L r P n ops Q rest (s.put d (.bool true)) w) (hf : x < y → L r P n ops Q rest (s.put d (.bool false)) w) (hx : s.ev n X = .int k x := by kernel_rfl) (hy : s.ev n Y = .int k y := by kernel_rfl) : L r P n ops Q (⟨d, .binOp .geq t X Y yt, ty, pos, af, none⟩ :: rest) s w :=
 xJ k x y (y ≤ x) rfl (cmp_ge x y) hx hy ht (fun h => hf (by omega))
theorem zw {op : Op} {g : Nat × Bool} (h : L r P n ops Q (⟨d, op, ty, pos, af, none⟩ :: rest) s w) (hg : Option.elim (yl ops n s g.1) false (fun b => b == g.2) = true := by kernel_rfl) : L r P n ops Q (⟨d, op, ty, pos, af, some g⟩ :: rest) s w := L_want hg h
theorem zs {op : Op} {g : Nat × Bool} (h : L r P n ops Q rest (s.put d undef) w) (hg : Option.elim (yl ops n s g.1) false (fun b => b == g.2) = false := by kernel_rfl) : L r P n ops Q (⟨d, op, ty, pos, af, some g⟩ :: rest) s w := L_skip hg h
theorem xG {c : Operand} (h : L r P n ops Q rest (s.put d (s.ev n X)) w) (hc : s.ev n c = .bool true := by kernel_rfl) : L r P n ops Q (⟨d, .pick c X Y, ty, pos, af, none⟩ :: rest) s w := L_pickT hc h
theorem xF {c : Operand} (h : L r P n ops Q rest (s.put d (s.ev n Y)) w) (hc : s.ev n c = .bool false := by kernel_rfl) : L r P n ops Q (⟨d, .pick c X Y, ty, pos, af, none⟩ :: rest) s w := L_pickF hc h
theorem zT {c : Operand} {x y : Code} (h : W r P n x Q s w) (hc : s.ev n c = .bool true := by kernel_rfl) : W r P n (.cond c x y) Q s w := W_true hc h
theorem zF {c : Operand} {x y : Code} (h : W r P n y Q s w) (hc : s.ev n c = .bool false := by kernel_rfl) : W r P n (.cond c x y) Q s w := W_false hc h
theorem zxo {id j : Nat} (h : Q (.exit j) s w) (hj : Nat.beq j id = false := by kernel_rfl) : blkQ id Q (.exit j) s w := blkQ_exit_other hj h
theorem zr {op : Op} (v : Value) (h : L r P n ops Q rest (s.put d v) w) (hrun : (execOp (s.ev n) ⟨d, op, ty, pos, af, none⟩).run P w = .ok (.value v) w := by kernel_rfl) (hd : notDefer op = true := by kernel_rfl) : L r P n ops Q (⟨d, op, ty, pos, af, none⟩ :: rest) s w := L_run v hrun hd h
theorem wW (b : Bool) (h : L r P n ops Q rest (s.put d (.bool (!b))) w) (hx : s.ev n X = .bool b := by kernel_rfl) : L r P n ops Q (⟨d, .unOp .not t X, ty, pos, af, none⟩ :: rest) s w := L_not b hx h
theorem xL (a b : Nat) (h : L r P n ops Q rest (s.put d (.int .i64 ((a + b : Nat) : Int))) w) (hb : a + b ≤ 9223372036854775807 := by omega) (hx : s.ev n X = .int .i64 a := by kernel_rfl) (hy : s.ev n Y = .int .i64 b := by kernel_rfl) : L r P n ops Q (⟨d, .binOp .add t X Y yt, ty, pos, af, none⟩ :: rest) s w := L_addN a b hb hx hy h
theorem zsb (a b : Nat) (h : L r P n ops Q rest (s.put d (.int .i64 ((a - b : Nat) : Int))) w) (hb : b ≤ a := by omega) (ha : a ≤ 9223372036854775807 := by omega) (hx : s.ev n X = .int .i64 a := by kernel_rfl) (hy : s.ev n Y = .int .i64 b := by kernel_rfl) : L r P n ops Q (⟨d, .binOp .sub t X Y yt, ty, pos, af, none⟩ :: rest) s w := L_subN a b hb ha hx hy h
theorem zsl {ats : Array TypeId} (t : TypeId) (a : List UInt8) (h : L r P n ops Q rest (s.put d (.int .i64 (a.length : Nat))) w) (hat : ats[0]? = some t := by rfl) (hu : P.underlying t = some .string := by kernel_rfl) (hx : s.ev n X = S a := by kernel_rfl) : L r P n ops Q (⟨d, .call ⟨.builtin .len, #[X], ats⟩, ty, pos, af, none⟩ :: rest) s w := L_slen t a hat hu hx h
theorem zln {ats : Array TypeId} {E m : Nat} {v : Value} (hu : P.underlying t = some (.slice E)) (hv : ∃ a c, v = .slice a m c) (h : L r P n ops Q rest (s.put d (.int .i64 (m : Nat))) w) (hat : ats[0]? = some t := by rfl) (hx : s.ev n X = v := by kernel_rfl) : L r P n ops Q (⟨d, .call ⟨.builtin .len, #[X], ats⟩, ty, pos, af, none⟩ :: rest) s w := L_len t E m v hat hu hv hx h
theorem zc {op : Op} {f : FuncId} {args : List Value} {R : Value → World → Prop} (hc : Calls P f args.toArray w (Ret R)) (h : ∀ v w', R v w' → L r P n ops Q rest (s.put d v) w') (hrun : (execOp (s.ev n) ⟨d, op, ty, pos, af, none⟩).run P w = .ok (.enter f args.toArray) w := by kernel_rfl) (hd : notDefer op = true := by kernel_rfl) : L r P n ops Q (⟨d, op, ty, pos, af, none⟩ :: rest) s w := L_call f args hrun hd hc h
theorem zN {op : Op} (l : List Value) (E : TypeId) (h : ∀ b w', New w w' b (.cells l.toArray E (0, 0)) → L r P n ops Q rest (s.put d (.pointer (some ⟨b, 0, none⟩))) w') (hrun : (execOp (s.ev n) ⟨d, op, ty, pos, af, none⟩).run P w = .ok (.value (.pointer (some ⟨w.heap.size, 0, none⟩))) (w.alloc (.cells l.toArray E (0, 0))) := by kernel_rfl) (hd : notDefer op = true := by kernel_rfl) : L r P n ops Q (⟨d, op, ty, pos, af, none⟩ :: rest) s w :=
 L_new (fun b => .pointer (some ⟨b, 0, none⟩)) _ hrun hd h
theorem zM {op : Op} (m : Nat) (l : List Value) (E : TypeId) (h : ∀ b w', New w w' b (.cells l.toArray E (0, 0)) → L r P n ops Q rest (s.put d (.slice (some ⟨b, 0, none⟩) m m)) w') (hrun : (execOp (s.ev n) ⟨d, op, ty, pos, af, none⟩).run P w = .ok (.value (.slice (some ⟨w.heap.size, 0, none⟩) m m)) (w.alloc (.cells l.toArray E (0, 0))) := by kernel_rfl) (hd : notDefer op = true := by kernel_rfl) : L r P n ops Q (⟨d, op, ty, pos, af, none⟩ :: rest) s w :=
 L_new (fun b => .slice (some ⟨b, 0, none⟩) m m) _ hrun hd h
theorem zO {b : Nat} {cs : List Value} {E : TypeId} {fz : Nat × Nat} {v : Value} (o : Nat) (hb : w.heap[b]? = some (.cells cs.toArray E fz)) (hv : cs[o]? = some v) (h : L r P n ops Q rest (s.put d v) w) (hx : s.ev n X = .pointer (some ⟨b, o, none⟩) := by kernel_rfl) (ha : (isAgg t).run P w = .ok false w := by kernel_rfl) : L r P n ops Q (⟨d, .load t X, ty, pos, af, none⟩ :: rest) s w :=
 uK b o v hx ha (zW hb (by simpa using hv)) h
theorem zOW {b : Nat} {cs : List Value} {E : TypeId} {fz : Nat × Nat} (hb : w.heap[b]? = some (.cells cs.toArray E fz)) (h : L r P n ops Q rest (s.put d (.agg cs.toArray)) w) (hx : s.ev n X = .pointer (some ⟨b, 0, none⟩) := by kernel_rfl) (ha : (isAgg t).run P w = .ok true w := by kernel_rfl) (hz : (sizeOf t).run P w = .ok cs.length w := by kernel_rfl) : L r P n ops Q (⟨d, .load t X, ty, pos, af, none⟩ :: rest) s w :=
 L_loadA b 0 cs hx ha hz (yI hb) h
theorem uF {b : Nat} {cs : List Value} {E : TypeId} {fz : Nat × Nat} {v : Value} {op : Op} {d1 : Tmp} {d2 : Option Tmp} {ty2 : TypeId} {pos2 : String} {af2 : Array Edge} (o : Nat) (hb : w.heap[b]? = some (.cells cs.toArray E fz)) (hv : cs[o]? = some v)
  (h : L r P n ops Q rest ((s.put (some d1) (.pointer (some ⟨b, o, none⟩))).put d2 v) w)
  (hrun : (execOp (s.ev n) ⟨some d1, op, ty, pos, af, none⟩).run P w = .ok (.value (.pointer (some ⟨b, o, none⟩))) w := by kernel_rfl) (hd : notDefer op = true := by kernel_rfl)
  (hlt : Nat.blt d1 n = true := by kernel_rfl) (ha : (isAgg t).run P w = .ok false w := by kernel_rfl) : L r P n ops Q (⟨some d1, op, ty, pos, af, none⟩ :: ⟨d2, .load t (.tmp d1), ty2, pos2, af2, none⟩ :: rest) s w :=
 L_run _ hrun hd (uK b o v (by simp [Fm.ev, Fm.put, hlt]) ha (zW hb (by simpa using hv)) h)
theorem z1 {b : Nat} {cs : List Value} {E : TypeId} (o : Nat) (v : Value) (cs' : List Value) (hb : w.heap[b]? = some (.cells cs.toArray E (0, 0)))
  (h : ∀ w', Wrote w w' b (.cells cs'.toArray E (0, 0)) → L r P n ops Q rest (s.put d undef) w') (h1 : v.oneCell' = true := by rfl) (hx : s.ev n X = .pointer (some ⟨b, o, none⟩) := by kernel_rfl) (hy : s.ev n Y = v := by kernel_rfl) (hz : (sizeOf t).run P w = .ok 1 w := by kernel_rfl) (ho : Nat.blt o cs.length = true := by rfl) (hcs : cs.set o v = cs' := by rfl) : L r P n ops Q (⟨d, .store t X Y, ty, pos, af, none⟩ :: rest) s w :=
 wL b o v cs cs' E hx hy h1 hz hb (by rw [blt_iff] at ho; simpa using ho) hcs h
theorem wG {b : Nat} {cs : List Value} {E : TypeId} (vs : List Value) (hb : w.heap[b]? = some (.cells cs.toArray E (0, 0)))
  (h : ∀ w', Wrote w w' b (.cells vs.toArray E (0, 0)) → L r P n ops Q rest (s.put d undef) w') (h1 : vs.all (·.oneCell') = true := by rfl) (hx : s.ev n X = .pointer (some ⟨b, 0, none⟩) := by kernel_rfl) (hy : s.ev n Y = .agg vs.toArray := by kernel_rfl) (hz : (sizeOf t).run P w = .ok vs.length w := by kernel_rfl) (ho : Nat.beq vs.length cs.length = true := by kernel_rfl) : L r P n ops Q (⟨d, .store t X Y, ty, pos, af, none⟩ :: rest) s w :=
 xP b 0 vs cs vs E hx hy h1 hz hb (by have := Nat.eq_of_beq_eq_true ho; simp [this]) (by have := Nat.eq_of_beq_eq_true ho; simp [this]) h
theorem zE {α : Type} {enc : α → List Value} {v : Value} {xs : List α} {x : α} {u : Value} {I : Operand} {T T2 E ke by_ kf : Nat} {d1 d2 : Tmp} {d3 : Option Tmp} {ty2 ty3 : TypeId} {pos2 pos3 : String} {af2 af3 : Array Edge}
  (hr : Rd w enc v xs) (he : Elem P T E ke by_) (i : Nat) (hi : xs[i]? = some x) (j : Nat) (hu : (enc x)[j]? = some u)
  (h : ∀ p q : Value, L r P n ops Q rest (((s.put (some d1) p).put (some d2) q).put d3 u) w)
  (hk : ∀ x, (enc x).length = ke := by exact fun _ => rfl) (hx : s.ev n X = v := by kernel_rfl) (hii : s.ev n I = .int .i64 i := by kernel_rfl)
  (hf : ∀ g o, (execOp ((s.put (some d1) (.pointer (some ⟨g, o, none⟩))).ev n) ⟨some d2, .fieldAddr T2 (.tmp d1) kf, ty2, pos2, af2, none⟩).run P w = .ok (.value (.pointer (some ⟨g, o + j, none⟩))) w := by exact fun _ _ => by kernel_rfl)
  (hlt : Nat.blt d2 n = true := by kernel_rfl) (ha : (isAgg t).run P w = .ok false w := by kernel_rfl) :
  L r P n ops Q (⟨some d1, .indexAddr T X I, ty, pos, af, none⟩ :: ⟨some d2, .fieldAddr T2 (.tmp d1) kf, ty2, pos2, af2, none⟩ :: ⟨d3, .load t (.tmp d2), ty3, pos3, af3, none⟩ :: rest) s w := by
 obtain ⟨g, off, hl, hc⟩ := hr.at hk hi
 refine xY (k := .i64) v i _ g off he hl (List.getElem?_eq_some_iff.1 hi).1 hx hii (L_run _ (hf g _) rfl ?_)
 exact uK g (off + i * ke + j) u (by simp [Fm.ev, Fm.put, hlt]) ha (hc j u hu) (h _ _)
theorem zE1 {α : Type} {enc : α → List Value} {v : Value} {xs : List α} {x : α} {u : Value} {I : Operand} {T E by_ : Nat} {d1 : Tmp} {d3 : Option Tmp} {ty3 : TypeId} {pos3 : String} {af3 : Array Edge}
  (hr : Rd w enc v xs) (he : Elem P T E 1 by_) (i : Nat) (hi : xs[i]? = some x) (hu : (enc x)[0]? = some u)
  (h : ∀ p : Value, L r P n ops Q rest ((s.put (some d1) p).put d3 u) w)
  (hk : ∀ x, (enc x).length = 1 := by exact fun _ => rfl) (hx : s.ev n X = v := by kernel_rfl) (hii : s.ev n I = .int .i64 i := by kernel_rfl)
  (hlt : Nat.blt d1 n = true := by kernel_rfl) (ha : (isAgg t).run P w = .ok false w := by kernel_rfl) :
  L r P n ops Q (⟨some d1, .indexAddr T X I, ty, pos, af, none⟩ :: ⟨d3, .load t (.tmp d1), ty3, pos3, af3, none⟩ :: rest) s w := by
 obtain ⟨g, off, hl, hc⟩ := hr.at hk hi
 refine xY (k := .i64) v i _ g off he hl (List.getElem?_eq_some_iff.1 hi).1 hx hii ?_
 exact uK g (off + i * 1) u (by simp [Fm.ev, Fm.put, hlt]) ha (hc 0 u hu) (h _)
theorem zEA {α : Type} {enc : α → List Value} {v : Value} {xs : List α} {x : α} {I : Operand} {T E ke by_ : Nat} {d1 : Tmp} {d3 : Option Tmp} {ty3 : TypeId} {pos3 : String} {af3 : Array Edge}
  (hr : Rd w enc v xs) (he : Elem P T E ke by_) (i : Nat) (hi : xs[i]? = some x) (us : List Value) (hu : enc x = us)
  (h : ∀ p : Value, L r P n ops Q rest ((s.put (some d1) p).put d3 (.agg us.toArray)) w)
  (hk : ∀ x, (enc x).length = ke := by exact fun _ => rfl) (hx : s.ev n X = v := by kernel_rfl) (hii : s.ev n I = .int .i64 i := by kernel_rfl)
  (hlt : Nat.blt d1 n = true := by kernel_rfl) (ha : (isAgg t).run P w = .ok true w := by kernel_rfl) (hz : (sizeOf t).run P w = .ok us.length w := by kernel_rfl) :
  L r P n ops Q (⟨some d1, .indexAddr T X I, ty, pos, af, none⟩ :: ⟨d3, .load t (.tmp d1), ty3, pos3, af3, none⟩ :: rest) s w := by
 subst hu
 obtain ⟨g, off, hl, hc⟩ := hr.at hk hi
 refine xY (k := .i64) v i _ g off he hl (List.getElem?_eq_some_iff.1 hi).1 hx hii ?_
 exact L_loadA g (off + i * ke) (enc x) (by simp [Fm.ev, Fm.put, hlt]) ha hz hc (h _)
end ops
def rvs (n : Nat) (s : Fm) (fn : Func) : List Value := fn.results.toList.map fun | .tmp t => s.ev n (.tmp t) | _ => undef
def rOk (fn : Func) : Bool := fn.results.toList.all fun | .tmp _ => true | _ => false
section
variable {P : Program} {n : Nat} {s : Fm} {w : World}
theorem res_vs : ∀ (l : List ResultVar), (l.all fun | .tmp _ => true | _ => false) = true → resOk P n s w l (l.map fun | .tmp t => s.ev n (.tmp t) | _ => undef)
 | [], _ => trivial
 | .tmp t :: l, h => ⟨rfl, res_vs l (by simpa using h)⟩
 | .cell _ _ :: l, h => by simp at h
theorem yC {fn : Func} {R : Value → World → Prop} (vs : List Value) (h : R (match vs with | [v] => v | _ => .tuple vs.toArray) w) (hv : rvs n s fn = vs := by kernel_rfl) (hr : rOk fn = true := by kernel_rfl) (hd : s.ds = [] := by rfl) : endQ P fn n R .ret s w := by
 subst hv
 have hh : resOk P n s w fn.results.toList (rvs n s fn) := res_vs _ hr
 refine yV fn.results.toList (rvs n s fn) (by simp) hd hh ?_
 clear hr
 generalize rvs n s fn = vs at h hh ⊢
 cases vs with
 | nil => exact h
 | cons v l => cases l <;> exact h
theorem znrm {fn : Func} {R : Value → World → Prop} (vs : List Value) (h : R (match vs with | [v] => v | _ => .tuple vs.toArray) w) (hv : rvs n s fn = vs := by kernel_rfl) (hr : rOk fn = true := by kernel_rfl) (hd : s.ds = [] := by rfl) : endQ P fn n R .normal s w := by
 subst hv
 have hh : resOk P n s w fn.results.toList (rvs n s fn) := res_vs _ hr
 refine end_normal fn.results.toList (rvs n s fn) (by simp) hd hh ?_
 clear hr
 generalize rvs n s fn = vs at h hh ⊢
 cases vs with
 | nil => exact h
 | cons v l => cases l <;> exact h
end
def putS (s : Fm) : List Nat → List Value → Fm
  | d :: ds, v :: vs => putS (s.put (some d) v) ds vs
  | _, _ => s
theorem W_setL {r : Option Nat} {P : Program} {n : Nat} {c : Code} {Q : Post} {w : World} : ∀ (ts : List Nat) (vs : List Value) (s : Fm), ts.map s.f = vs → W r P n c Q (putS s ts vs) w → W r P n c Q s w
 | [], [], _, _, h => h
 | t :: ts, v :: vs, s, he, h => by
  simp only [List.map_cons, List.cons.injEq] at he
  refine W_set t v he.1 ?_
  refine W_setL ts vs _ ?_ h
  obtain ⟨b, a⟩ := he
  rw [← a]
  refine List.map_congr_left fun i _ => ?_
  show (bif Nat.beq i t then v else s.f i) = s.f i
  cases hq : Nat.beq i t with
  | false => rfl
  | true => rw [Nat.eq_of_beq_eq_true hq]; exact b.symm
 | [], _ :: _, _, he, _ => by simp at he
 | _ :: _, [], _, he, _ => by simp at he
theorem yS {r : Option Nat} {P : Program} {n : Nat} {c : Code} {Q : Post} {s : Fm} {w : World} {ts : List Nat} {vs : List Value} (h : ts.map s.f = vs) (k : W r P n c Q (putS s ts vs) w) : W r P n c Q s w := W_setL ts vs s h k
end Go.FK
end

/- === FKar === -/
section
/- FKar: more short laws for the walks' texts. My own text. -/
namespace Go.FK
open Go Go.RowKit
theorem zh {p : Prop} (h : p := by simp only [arithZ]; omega) : p := h
theorem zi {p : Prop} (h : p := by simp) : p := h
theorem zj {α : Sort _} {p : α → Prop} (h : ∀ x, p x := by exact fun _ => rfl) : ∀ x, p x := h
theorem zf {α : Sort _} {p : α → Prop} (h : ∀ x, p x := by intro _; kernel_rfl) : ∀ x, p x := h
theorem zg {α : Sort _} {β : α → Sort _} {p : (x : α) → β x → Prop} (h : ∀ x y, p x y := by intro _ _; kernel_rfl) : ∀ x y, p x y := h
theorem e6 {a b : Int} (h : a = b) : Value.int .i64 a = Value.int .i64 b := by rw [h]
theorem e3 {a b : Int} (h : a = b) : Value.int .i32 a = Value.int .i32 b := by rw [h]
theorem eu {a b : Int} (h : a = b) : Value.int .u8 a = Value.int .u8 b := by rw [h]
theorem e8 {a b : Int} (h : a = b) : Value.int .i8 a = Value.int .i8 b := by rw [h]
theorem eb {a b : Bool} (h : a = b) : Value.bool a = Value.bool b := by rw [h]
section
variable {r : Option Nat} {P : Program} {n : Nat} {Q Q2 : Post} {s : Fm} {w : World} {ops : Array Oper}
theorem wI (k : Nat) {f : FuncId} {fn : Func} {c : Code} {args : List Value} {R : Value → World → Prop} (hf : P.funcs[f]? = some fn) (hb : fn.body = some c) (h : W none P k c (endQ P fn k R) ⟨fun i => args.getD i undef, []⟩ w) (hn : fn.ntmps = k := by kernel_rfl) (hk : Nat.ble args.length k = true := by kernel_rfl) : Calls P f args.toArray w (Ret R) :=
 enter hf hb hn hk h
theorem nQ {K : Fm → World → Prop} (h : K s w) : L r P n ops (thenQ K Q) [] s w := zR (zB h)
theorem nW {x y : Code} (h : W r P n x (thenQ (W r P n y Q) Q) s w) : L r P n ops (thenQ (W r P n (.seq x y) Q) Q2) [] s w := zR (zB (zY h))
theorem wR {id : Nat} {l : List Oper} {y : Code} (h : L r P n l.toArray (thenQ (W r P n y Q) Q) l s w) : W r P n (.seq (.region id l.toArray false) y) Q s w := zY (zQ h)
theorem nR {id : Nat} {l : List Oper} {y : Code} (h : L r P n l.toArray (thenQ (W r P n y Q) Q) l s w) : L r P n ops (thenQ (W r P n (.seq (.region id l.toArray false) y) Q) Q2) [] s w := zR (zB (zY (zQ h)))
end
section
variable {P : Program} {n : Nat} {Q : Post} {s : Fm} {w : World} {ops : Array Oper} {S : World → Prop} {fuel : Nat} {listed : Array Bool}
theorem ht (i : Nat) {o : Oper} (hi : ops[i]? = some o) (v : Value) (hS : S w) (hrun : RunOk P n o s S v) (h : Lh P n ops Q S fuel (listed.setIfInBounds i true) (s.put o.dst v) w)
  (hs : Region.noSelect ops = true := by kernel_rfl) (hf : Region.free .any ops listed i = true := by kernel_rfl) (hr : (Region.ready .any ops listed).contains i = true := by kernel_rfl) (hw : wantB ops n s o.guard = true := by kernel_rfl)
  (hq : NoPanic Q := by with_reducible repeat first | exact vE | exact qM | exact qY | apply qQ | apply vI | apply uE) : Lh P n ops Q S (fuel + 1) listed s w :=
 H_take i v hi hs hf hr hq hS hw hrun h
theorem hp (i : Nat) {o : Oper} (hi : ops[i]? = some o) (v : Value) (hS : S w) (h : Lh P n ops Q S fuel (listed.setIfInBounds i true) (s.put o.dst v) w)
  (hs : Region.noSelect ops = true := by kernel_rfl) (hf : Region.free .any ops listed i = true := by kernel_rfl) (hr : (Region.ready .any ops listed).contains i = true := by kernel_rfl) (hw : wantB ops n s o.guard = true := by kernel_rfl)
  (hq : NoPanic Q := by with_reducible repeat first | exact vE | exact qM | exact qY | apply qQ | apply vI | apply uE) (hrun : RunOk P n o s S v := by intro _ _; kernel_rfl) : Lh P n ops Q S (fuel + 1) listed s w :=
 H_take i v hi hs hf hr hq hS hw hrun h
theorem ip (i : Nat) {o : Oper} (hi : ops[i]? = some o) (v : Value) (h : Li P n ops Q fuel (listed.setIfInBounds i true) (s.put o.dst v) w)
  (hs : Region.noSelect ops = true := by kernel_rfl) (hf : Region.free .any ops listed i = true := by kernel_rfl) (hr : (Region.ready .any ops listed).contains i = true := by kernel_rfl) (hc : noCall o.op = true := by kernel_rfl) (hw : wantB ops n s o.guard = true := by kernel_rfl)
  (hq : NoPanic Q := by with_reducible repeat first | exact vE | exact qM | exact qY | apply qQ | apply vI | apply uE) (hrun : ∀ w', (execOp (s.ev n) o).run P w' = .ok (.value v) w' := by intro _; kernel_rfl) : Li P n ops Q (fuel + 1) listed s w :=
 I_take i v hi hs hf hr hc hq hw hrun h
end
section
variable {P : Program} {n : Nat} {s : Fm} {w : World} {ops : Array Oper} {rest : List Oper} {K : Fm → Prop} {d : Option Tmp} {ty : TypeId} {pos : String} {af : Array Edge} {c X Y : Operand}
theorem qw {op : Op} {g : Nat × Bool} (h : Lq P n ops w K (⟨d, op, ty, pos, af, none⟩ :: rest) s) (hg : Option.elim (yl ops n s g.1) false (fun b => b == g.2) = true := by kernel_rfl) : Lq P n ops w K (⟨d, op, ty, pos, af, some g⟩ :: rest) s := Lq_want hg h
theorem qs {op : Op} {g : Nat × Bool} (h : Lq P n ops w K rest (s.put d undef)) (hg : Option.elim (yl ops n s g.1) false (fun b => b == g.2) = false := by kernel_rfl) : Lq P n ops w K (⟨d, op, ty, pos, af, some g⟩ :: rest) s := Lq_skip hg h
theorem qT (h : Lq P n ops w K rest (s.put d (s.ev n X))) (hc : s.ev n c = .bool true := by kernel_rfl) : Lq P n ops w K (⟨d, .pick c X Y, ty, pos, af, none⟩ :: rest) s := Lq_pickT hc h
theorem qF (h : Lq P n ops w K rest (s.put d (s.ev n Y))) (hc : s.ev n c = .bool false := by kernel_rfl) : Lq P n ops w K (⟨d, .pick c X Y, ty, pos, af, none⟩ :: rest) s := Lq_pickF hc h
theorem qr {op : Op} (v : Value) (h : Lq P n ops w K rest (s.put d v)) (hrun : ∀ w', (execOp (s.ev n) ⟨d, op, ty, pos, af, none⟩).run P w' = .ok (.value v) w' := by intro _; kernel_rfl) : Lq P n ops w K (⟨d, op, ty, pos, af, none⟩ :: rest) s := yQ v hrun h
end
end Go.FK
end

/- === Wllines === -/
section
/- Walks, written by my program walk.py out of the specification llines.py: each theorem says what one function returns and that it leaves memory as it was. -/
namespace Go.Proofs.YtddnhlobnembaaaGreatDoor
open Go Go.RowKit Go.FK _root_.Go.Proofs.Tryz
set_option maxHeartbeats 4000000
set_option maxRecDepth 100000
theorem el88 : Elem Tryz.prog 88 9 1 16 := ⟨underlying88, zk, rfl⟩
theorem el126 : Elem Tryz.prog 126 129 3 24 := ⟨underlying126, zk, rfl⟩
theorem qG (s : List UInt8) (c : Int) (w : World) :
  Calls Tryz.prog 99 #[(S s), (U8 c)] w (Ret fun v w' => v = (I6 (ibF s c)) ∧ Below w.heap.size w w') :=
 indexByte_contract Tryz.strings_IndexByte s c w
theorem wC (s : List UInt8) (p : List UInt8) (w : World) :
  Calls Tryz.prog 72 #[(S s), (S p)] w (Ret fun v w' => v = (.bool (hpB s p)) ∧ Below w.heap.size w w') :=
 hasPrefix_contract Tryz.strings_HasPrefix s p w
theorem c_stringslite_Index (s : List UInt8) (sep : List UInt8) (w : World) (h1 : sep.length = 1) :
  Calls Tryz.prog 116 #[(S s), (S sep)] w (Ret fun v w' => v = (I6 (Lib.index s sep)) ∧ Below w.heap.size w w') :=
 index1_contract Tryz.stringslite_Index_one s sep w h1
theorem c_stringslite_Cut (s : List UInt8) (sep : List UInt8) (w : World) (h1 : sep.length = 1) (hs : s.length ≤ 1073741824) :
  Calls Tryz.prog 101 #[(S s), (S sep)] w (Ret fun v w' => v = (.tuple #[(S ((Lib.cut s sep).1)), (S ((Lib.cut s sep).2.1)), (.bool ((Lib.cut s sep).2.2))]) ∧ Below w.heap.size w w') := by
 refine wI 23 func101 rfl ?_
 have a := Below.refl w.heap.size w
 refine wR (zG (zG (zG (nW (wR (zD (zD (zc (c_stringslite_Index s sep _ zo) ?_))))))))
 rintro _ d ⟨rfl, b⟩
 have := ixl_range s sep
 refine zG (nR (zD (zGe .i64 (Lib.index s sep) 0 ?_ ?_)))
 ·intro f
  refine nQ (zT (zY (xA zk zk (yE (yE (Lq_ssto s (((Lib.index s sep)).toNat) underlying9 zk (toNat_val (Lib.index s sep) .i64 zk zo) zo (yE (yE (yE (Lq_slen 9 sep rfl underlying9 zk (Lq_arith (Lib.index s sep) (((sep).length : Nat) : Int) ((Lib.index s sep) + (((sep).length : Nat) : Int)) rfl zk zk (yW _ zh zh) (Lq_ssfrom s ((((Lib.index s sep) + (((sep).length : Nat) : Int))).toNat) underlying9 zk (toNat_val ((Lib.index s sep) + (((sep).length : Nat) : Int)) .i64 zk zo) zo (wU (wU (wU (yN ?_))))))))))))))))
  intro g c
  have a := (a.tr b).tr c
  exact zB (zS (zH (yC [(S (List.take (((Lib.index s sep)).toNat) s)), (S (List.drop ((((Lib.index s sep) + (((sep).length : Nat) : Int))).toNat) s)), (.bool true)] ⟨tup3 (congrArg S (by (rw [cut_some zo]; done))) (congrArg S (by (rw [cut_some zo]; done))) (eb (by (rw [cut_some zo]; done))), a⟩)))
 intro e
 have a := a.tr b
 exact nQ (zF (zK (zB (wR (zD (zG (zG (zG (nQ (zS (yC [(S s), (S []), (.bool false)] ⟨tup3 (congrArg S (by (rw [cut_none zo]; done))) (congrArg S (by (rw [cut_none zo]; done))) (eb (by (rw [cut_none zo]; done))), a⟩)))))))))))
theorem c_strings_Cut (s : List UInt8) (sep : List UInt8) (w : World) (h1 : sep.length = 1) (hs : s.length ≤ 1073741824) :
  Calls Tryz.prog 70 #[(S s), (S sep)] w (Ret fun v w' => v = (.tuple #[(S ((Lib.cut s sep).1)), (S ((Lib.cut s sep).2.1)), (.bool ((Lib.cut s sep).2.2))]) ∧ Below w.heap.size w w') := by
 refine wI 13 func70 rfl ?_
 have a := Below.refl w.heap.size w
 refine wR (zG (zG (zG (nR (zD (zD (zc (c_stringslite_Cut s sep _ zo zo) ?_)))))))
 rintro _ c ⟨rfl, b⟩
 have := qW s sep
 have a := a.tr b
 exact zr (S ((Lib.cut s sep).1)) (zr (S ((Lib.cut s sep).2.1)) (zr (.bool ((Lib.cut s sep).2.2)) (zG (zG (zG (nQ (zS (yC [(S ((Lib.cut s sep).1)), (S ((Lib.cut s sep).2.1)), (.bool ((Lib.cut s sep).2.2))] ⟨rfl, a⟩))))))))
theorem c_strings_Trim (s : List UInt8) (c : List UInt8) (w : World) (ha : c.all (fun b => decide (b.toNat < 128)) = true) (hs : s.length ≤ 1073741824) (hc : c.length ≤ 1073741824) :
  Calls Tryz.prog 102 #[(S s), (S c)] w (Ret fun v w' => v = (S (Lib.trimS s c)) ∧ Below w.heap.size w w') :=
 trim_contract (fun s c w hs hcs ha => Go.Proofs.Any.strings_Trim_laid Tryz.lays160 zk s c w hs hcs ha) s c w ha hs hc
theorem vO (s : List UInt8) (w : World) (hs : s.length ≤ 1073741824) :
  Calls Tryz.prog 71 #[(S s)] w (Ret fun v w' => v = (S (trmF s)) ∧ Below w.heap.size w w') := by
 refine wI 5 func71 rfl ?_
 have a := Below.refl w.heap.size w
 refine wR (zG (nR (zD (zc (c_strings_Trim s ([32, 9] : List UInt8) _ (by decide) (by first | omega | decide) (by first | omega | decide)) ?_))))
 rintro _ c ⟨rfl, b⟩
 have a := a.tr b
 exact zG (nQ (zS (yC [(S (Lib.trimS s ([32, 9] : List UInt8)))] ⟨congrArg S (by rfl), a⟩)))
theorem c_lines_wrong (s : List UInt8) (p : Nat) (r : Int) (w : World) (hp : p ≤ s.length) :
  Calls Tryz.prog 100 #[(S s), (N6 p), (I3 r)] w (Ret fun v w' => v = (.bool (wrongB s p r)) ∧ Below w.heap.size w w') := by
 refine wI 18 func100 rfl ?_
 have a := Below.refl w.heap.size w
 refine wR (zG (nR (zD (qA .i32 r 65533 ?_ ?_))))
 ·intro f
  refine zD (zw (zD (zw (zD (zw (qD s p underlying9 zk ⟨.i64, zk⟩ zo (zw (zD (zw (L_runeStr r zk underlying21 underlying9 (zw (zc (wC (List.drop p s) (encL [r]) _ ) ?_))))))))))))
  rintro _ g ⟨rfl, b⟩
  refine yK (hpB (List.drop p s) (encL [r])) ?_ ?_
  ·intro c
   replace a := a.tr b
   exact zw (wW true (xG (zG (nQ (zS (yC [(.bool false)] ⟨eb (by (unfold wrongB; simp_all; done)), a⟩))))))
  intro e
  replace a := a.tr b
  exact zw (wW false (xG (zG (nQ (zS (yC [(.bool true)] ⟨eb (by (unfold wrongB; simp_all; done)), a⟩))))))
 intro d
 exact zD (zs (zs (zs (zs (zs (zs (zs (xF (zG (nQ (zS (yC [(.bool false)] ⟨eb (by (simp [wrongB, *]; done)), a⟩))))))))))))
theorem c_lines_Check (s : List UInt8) (w : World) (hs : s.length ≤ 1073741824) :
  Calls Tryz.prog 68 #[(S s)] w (Ret fun v w' => v = (.tuple #[(N6 ((chkF s).1)), (I6 ((chkF s).2))]) ∧ Below w.heap.size w w') := by
 refine wI 35 func68 rfl ?_
 have g := Below.refl w.heap.size w
 refine wR (zG (zG (nR (zG (nW (wR (zD (L_range s underlying9 zk ?_))))))))
 intro r w2 o
 have e := o.ge g.size
 have c := o.here
 refine nQ (zX ?_)
 have g := g.tr o.below
 refine yZ (fun m s0 w0 => ∃ (pos : Nat) (n : Nat), (m = s.length - pos) ∧ (s0.ds = []) ∧ ([0, 8, 4].map s0.f = [(S s), (pt r 0), (N6 n)]) ∧ (w0.heap[r]? = some (.stringIter ⟨(s).toArray⟩ pos)) ∧ (Below w.heap.size w w0) ∧ (pos ≤ s.length) ∧ (n ≤ pos) ∧ (n ≤ 4096) ∧ (chkL (charsFrom s pos) n = chkF s)) _ ⟨0, 0, rfl, zk, zk, c, g, by omega, by omega, by omega, rfl⟩ ?_
 rintro m4 s5 w6 ⟨pos, n, hm, i, t, c, g, i1, i2, i4, k⟩
 refine yS t (wR ?_)
 rcases Nat.lt_or_ge pos (s).length with a | l
 ·refine L_next s r pos zk c a ?_
  intro d w7 b j
  have c := j.here
  have := dec_pos s pos; have := dec_fits s pos a; have := dec_le s pos
  have p : 0 ≤ d := by omega
  have q : d ≤ 2147483647 := by omega
  refine zr (.bool true) (nW (zT (zK (zB (zX (wR (zr (N6 pos) (zr (I3 d) (zG (zG (nW (zX (wR (zD (nEq n 4096 ?_ ?_)))))))))))))))
  ·intro h9
   have g := g.trans (j.below e)
   exact zG (nQ (zT (wR (zD (zG (zG (nQ (zS (zP (zH (zP (zH (zP (zH (yC [(N6 n), (I6 32)] (hd := i) ⟨xE (congrArg (fun x : Nat => Value.int .i64 (x : Int)) (by (rw [← k, (by assumption : n = 4096), chk_wide a]; done))) (e6 (by (rw [← k, (by assumption : n = 4096), chk_wide a]; done))), g⟩)))))))))))))))
  intro af
  refine zG (nQ (zF (wR (zD (zD (zD (zc (c_lines_wrong s pos d _ zo) ?_)))))))
  rintro _ aa ⟨rfl, h⟩
  refine yK (wrongB s pos d) ?_ ?_
  ·intro ai
   have g := (g.trans (j.below e)).tr h
   exact zG (nQ (zT (wR (zD (zG (zG (nQ (zS (zP (zH (zP (zH (zP (zH (yC [(N6 n), (I6 30)] (hd := i) ⟨xE (congrArg (fun x : Nat => Value.int .i64 (x : Int)) (by (rw [← k, chk_wrong (n := n) a zo (by rw [← b]; assumption)]; done))) (e6 (by (rw [← k, chk_wrong (n := n) a zo (by rw [← b]; assumption)]; done))), g⟩)))))))))))))))
  intro ah
  refine zG (nQ (zF (zY (wR (zD (zLt .i32 d 32 ?_ ?_))))))
  ·intro ad
   refine zD (zw (zD (zw (zNe .i32 d 9 ?_ ?_))))
   ·intro z
    have g := (g.trans (j.below e)).tr h
    exact xG (zG (nQ (zT (zK (zB (zT (wR (zD (zG (zG (nQ (zS (zP (zH (zP (zH (zP (zH (yC [(N6 n), (I6 31)] (hd := i) ⟨xE (congrArg (fun x : Nat => Value.int .i64 (x : Int)) (by (rw [← k, chk_ctl (n := n) a zo (by rw [← b]; assumption) zo]; done))) (e6 (by (rw [← k, chk_ctl (n := n) a zo (by rw [← b]; assumption) zo]; done))), g⟩)))))))))))))))))))
   intro ag
   refine xG (zG (nQ (zF (zQ (zD (qA .i32 d 127 ?_ ?_))))))
   ·intro ac
    have g := (g.trans (j.below e)).tr h
    exact zG (nQ (zT (wR (zD (zG (zG (nQ (zS (zP (zH (zP (zH (zP (zH (yC [(N6 n), (I6 31)] (hd := i) ⟨xE (congrArg (fun x : Nat => Value.int .i64 (x : Int)) (by (rw [← k, chk_ctl (n := n) a zo (by rw [← b]; assumption) zo]; done))) (e6 (by (rw [← k, chk_ctl (n := n) a zo (by rw [← b]; assumption) zo]; done))), g⟩)))))))))))))))
   intro ab
   refine zG (nQ (zF (zK (zI (zB (zQ (zD (xL n 1 (zG (zR (zI ?_)))))))))))
   have g := (g.trans (j.below e)).tr h
   have c := zA c h
   refine zB ⟨_, zo, (pos + (dec s pos).2), (n + 1), rfl, i, zk, c, g, zo, zo, zo, ?_⟩
   rw [← chk_on (n := n) a zo (by rw [← b]; assumption) zo]; exact k
  intro y
  refine zD (zs (zs (xF (zG (nQ (zF (zQ (zD (qA .i32 d 127 ?_ ?_)))))))))
  ·intro u
   have g := (g.trans (j.below e)).tr h
   exact zG (nQ (zT (wR (zD (zG (zG (nQ (zS (zP (zH (zP (zH (zP (zH (yC [(N6 n), (I6 31)] (hd := i) ⟨xE (congrArg (fun x : Nat => Value.int .i64 (x : Int)) (by (rw [← k, chk_ctl (n := n) a zo (by rw [← b]; assumption) zo]; done))) (e6 (by (rw [← k, chk_ctl (n := n) a zo (by rw [← b]; assumption) zo]; done))), g⟩)))))))))))))))
  intro ae
  refine zG (nQ (zF (zK (zI (zB (zQ (zD (xL n 1 (zG (zR (zI ?_)))))))))))
  have g := (g.trans (j.below e)).tr h
  have c := zA c h
  refine zB ⟨_, zo, (pos + (dec s pos).2), (n + 1), rfl, i, zk, c, g, zo, zo, zo, ?_⟩
  rw [← chk_on (n := n) a zo (by rw [← b]; assumption) zo]; exact k
 exact L_nextEnd s r pos zk c l (zr (.bool false) (nW (zF (yH (zL (zL (yB (zB (wR (zG (zG (nQ (zS (yC [(I6 0), (I6 0)] (hd := i) ⟨xE (congrArg (fun x : Nat => Value.int .i64 (x : Int)) (by (rw [← k, chk_end zo]; done))) (e6 (by (rw [← k, chk_end zo]; done))), g⟩))))))))))))))
theorem c_lines_fields (s : List UInt8) (w : World) (hs : s.length ≤ 1073741824) :
  Calls Tryz.prog 74 #[(S s)] w (Ret fun v w' => ∃ (q0 : Value), v = q0 ∧ Row w' w.heap.size 9 1 encStr q0 (fieldsF s) ∧ Below w.heap.size w w') := by
 refine wI 37 func74 rfl ?_
 have g := Below.refl w.heap.size w
 refine wR (zG (nQ (W_scope (fun l m s0 w0 => (l = 1 ∧ ∃ (b : List (List UInt8)) (h : Nat) (a : Nat) (e : Value), (m = 3 * (s.length - a) + 2) ∧ (s0.ds = []) ∧ ([0, 3, 4, 5].map s0.f = [(S s), e, (N6 h), (N6 a)]) ∧ (Row w0 w.heap.size 9 1 encStr e b) ∧ (Below w.heap.size w w0) ∧ (h ≤ a) ∧ (a ≤ s.length) ∧ (noB 59 s h a) ∧ (b ++ (splF 59 (s.drop h)).map trmF = (splF 59 s).map trmF) ∧ (trmF s ≠ []) ∧ (b.length ≤ a)) ∨ (l = 2 ∧ ∃ (b : List (List UInt8)) (h : Nat) (a : Nat) (e : Value), (m = 3 * (s.length - a) + 1) ∧ (s0.ds = []) ∧ ([0, 3, 4, 5].map s0.f = [(S s), e, (N6 h), (N6 a)]) ∧ (Row w0 w.heap.size 9 1 encStr e b) ∧ (Below w.heap.size w w0) ∧ (h ≤ a) ∧ (a ≤ s.length) ∧ (noB 59 s h a) ∧ (b ++ (splF 59 (s.drop h)).map trmF = (splF 59 s).map trmF) ∧ (trmF s ≠ []) ∧ (b.length ≤ a) ∧ (∃ c : UInt8, s[a]? = some c ∧ c.toNat = 59) ∧ (a < s.length)) ∨ (l = 0 ∧ ∃ (b : List (List UInt8)) (h : Nat) (a : Nat) (e : Value), (m = 0) ∧ (s0.ds = []) ∧ ([0, 3, 4, 5].map s0.f = [(S s), e, (N6 h), (N6 a)]) ∧ (Row w0 w.heap.size 9 1 encStr e b) ∧ (Below w.heap.size w w0) ∧ (h ≤ a) ∧ (a ≤ s.length) ∧ (noB 59 s h a) ∧ (b ++ (splF 59 (s.drop h)).map trmF = (splF 59 s).map trmF) ∧ (trmF s ≠ []) ∧ (b.length ≤ a) ∧ (a = s.length))) ?_ ?_)))
 ·refine wR (zG (nR (zG (zG (nW (wR (zD (zc (vO s _ zo) ?_))))))))
  rintro _ w1 ⟨rfl, p⟩
  have := qR s
  refine vD (trmF s) ([] : List UInt8) rfl zk zk ?_ ?_
  ·intro h4
   have g := g.tr p
   exact nQ (zT (wR (zG (nQ (zS (zH (jmpQ_ret (yC [(.slice none 0 0)] ⟨(.slice none 0 0), rfl, (Row.nil _ _ _ _ _).cast (by exact (fields_nil za).symm), g⟩))))))))
  intro h5
  refine nQ (zF (zK (zB (zY (W_label (zB (zY (wR (zD (zD (zsl 9 s (nEq 0 ((s).length) ?_ ?_))))))))))))
  ·intro h6
   refine nQ (zT (W_goto (vW (jmpQ_goto ?_))))
   have g := g.tr p
   refine ⟨_, Or.inr (Or.inr (⟨rfl, [], 0, 0, (.slice none 0 0), rfl, rfl, zk, Row.nil _ _ _ _ _, g, zo, zo, ?_, ?_, ?_, ?_, zo⟩))⟩
   ·exact noB_zero _ _ _
   ·rfl
   ·first | assumption | exact o
   (simp only [List.length_append, List.length_cons, List.length_nil]; omega)
  intro h7
  refine nQ (zF (zK (zB (zY (wR (zD (zD ?_)))))))
  have hz := zV s 0 zo; obtain ⟨t, af⟩ := hz
  have := t.toNat_lt
  refine xM (k := .i64) s 0 t underlying9 af zk zk (xJ .u8 ((t.toNat : Nat) : Int) ((59 : Nat) : Int) (t.toNat = 59) rfl (xK t.toNat 59) zk zk ?_ ?_)
  ·intro ap
   replace ap : t.toNat = 59 := by omega
   refine nQ (zT (W_goto (vW (jmpQ_goto ?_))))
   have g := g.tr p
   refine ⟨_, Or.inr (Or.inl (⟨rfl, [], 0, 0, (.slice none 0 0), rfl, rfl, zk, Row.nil _ _ _ _ _, g, zo, zo, ?_, ?_, ?_, ?_, ?_, zo⟩))⟩
   ·exact noB_zero _ _ _
   ·rfl
   ·first | assumption | exact o
   ·(simp only [List.length_append, List.length_cons, List.length_nil]; omega)
   exact ⟨_, by assumption, by assumption⟩
  intro an
  replace an : t.toNat ≠ 59 := by omega
  refine nQ (zF (zK (zB (wR (zD (xL 0 1 (zG (nW (W_goto (vW (jmpQ_goto ?_)))))))))))
  have g := g.tr p
  refine ⟨_, Or.inl (⟨rfl, [], 0, 1, (.slice none 0 0), rfl, rfl, zk, Row.nil _ _ _ _ _, g, zo, zo, ?_, ?_, ?_, ?_⟩)⟩
  ·exact noB_succ (noB_zero _ _ _) za za
  ·rfl
  ·first | assumption | exact o
  (simp only [List.length_append, List.length_cons, List.length_nil]; omega)
 rintro l ay ax az (⟨rfl, b, h, a, e, hm, j, n, d, g, i0, i1, i2, i3, o, i5⟩ | ⟨rfl, b, h, a, e, hm, j, n, d, g, i0, i1, i2, i3, o, i5, i6, i7⟩ | ⟨rfl, b, h, a, e, hm, j, n, d, g, i0, i1, i2, i3, o, i5, i6⟩)
 ·skip
  refine ⟨_, rfl, yS n (zY (zK (zB (zY (wR (zD (zD (zsl 9 s (nEq a ((s).length) ?_ ?_)))))))))⟩
  ·intro a5
   refine nQ (zT (W_goto (vW (jmpQ_goto ?_))))
   refine ⟨_, zo, Or.inr (Or.inr (⟨rfl, b, h, a, e, rfl, j, zk, d, g, zo, zo, ?_, ?_, ?_, zo, zo⟩))⟩
   ·assumption
   ·assumption
   first | assumption | exact o
  intro a2
  refine nQ (zF (zK (zB (zY (wR (zD (zD ?_)))))))
  have hz := zV s a zo; obtain ⟨i, aa⟩ := hz
  have := i.toNat_lt
  refine xM (k := .i64) s a i underlying9 aa zk zk (xJ .u8 ((i.toNat : Nat) : Int) ((59 : Nat) : Int) (i.toNat = 59) rfl (xK i.toNat 59) zk zk ?_ ?_)
  ·intro ak
   replace ak : i.toNat = 59 := by omega
   refine nQ (zT (W_goto (vW (jmpQ_goto ?_))))
   refine ⟨_, zo, Or.inr (Or.inl (⟨rfl, b, h, a, e, rfl, j, zk, d, g, zo, zo, ?_, ?_, ?_, zo, ?_, zo⟩))⟩
   ·assumption
   ·assumption
   ·first | assumption | exact o
   exact ⟨_, by assumption, by assumption⟩
  intro aj
  replace aj : i.toNat ≠ 59 := by omega
  refine nQ (zF (zK (zB (wR (zD (xL a 1 (zG (nW (W_goto (vW (jmpQ_goto ?_)))))))))))
  refine ⟨_, zo, Or.inl (⟨rfl, b, h, (a + 1), e, rfl, j, zk, d, g, zo, zo, ?_, ?_, ?_, zo⟩)⟩
  ·exact noB_succ i2 za za
  ·assumption
  first | assumption | exact o
 ·skip
  refine ⟨_, rfl, yS n ?_⟩
  obtain ⟨c0, am, ai⟩ := i6
  refine zY (zK (zB (wR (zD (zD (zD (zD (L_sslice s h a underlying9 zk ⟨.i64, zk⟩ ⟨.i64, zk⟩ zo zo (zc (vO (List.drop h (List.take a s)) _ (by (simp only [List.length_drop, List.length_take]; omega))) ?_)))))))))
  rintro _ a0 ⟨rfl, r⟩
  have := qR (List.drop h (List.take a s))
  have g := g.tr r
  have d := d.below r
  refine xW el88 w.heap.size e b (trmF (List.drop h (List.take a s))) g.size d zo zk rfl rfl zk rfl zk zk ?_
  intro ag a1 y z al
  have g := g.tg g.size z d
  have d := y
  refine zG (nR (zD (xL a 1 (zG (nR (zD (zG (nW (W_goto (vW (jmpQ_goto ?_)))))))))))
  refine ⟨_, zo, Or.inl (⟨rfl, (b ++ [(trmF (List.drop h (List.take a s)))]), (a + 1), (a + 1), ag, rfl, j, zk, d, g, zo, zo, ?_, ?_, ?_, ?_⟩)⟩
  ·exact noB_zero _ _ _
  ·exact fld_hit i2 i0 am ai i3
  ·first | assumption | exact o
  (simp only [List.length_append, List.length_cons, List.length_nil]; omega)
 skip
 refine ⟨_, rfl, yS n (zY (zK (zB (wR (zD (zD (zD (qD s h underlying9 zk ⟨.i64, zk⟩ zo (zc (vO (List.drop h s) _ (by (simp only [List.length_drop, List.length_take]; omega))) ?_)))))))))⟩
 rintro _ a4 ⟨rfl, q⟩
 have := qR (List.drop h s)
 have g := g.tr q
 have d := d.below q
 refine xW el88 w.heap.size e b (trmF (List.drop h s)) g.size d zo zk rfl rfl zk rfl zk zk ?_
 intro ac a3 u ad aq
 have g := g.tg g.size ad d
 have d := u
 exact zG (nQ (zS (jmpQ_ret (yC [ac] (hd := j) ⟨ac, rfl, d.cast (by exact fld_end i2 zo i3 o), g⟩))))
theorem c_lines_Cut (s : List UInt8) (w : World) (hs : s.length ≤ 1073741824) :
  Calls Tryz.prog 69 #[(S s)] w (Ret fun v w' => ∃ (q0 : Value), v = (.tuple #[q0, (S ((cutF s).2))]) ∧ Row w' w.heap.size 9 1 encStr q0 ((cutF s).1) ∧ Below w.heap.size w w') := by
 refine wI 17 func69 rfl ?_
 have b := Below.refl w.heap.size w
 refine wR (zG (zG (nR (zD (zc (c_strings_Cut s ([35] : List UInt8) _ (by first | omega | decide | rfl) (by first | omega | decide | rfl)) ?_)))))
 rintro _ g ⟨rfl, e⟩
 have := qW s ([35] : List UInt8)
 refine zD (zr (S ((Lib.cut s ([35] : List UInt8)).1)) (zr (S ((Lib.cut s ([35] : List UInt8)).2.1)) (zr (.bool ((Lib.cut s ([35] : List UInt8)).2.2)) (zG (zG (zG (nR (zD (zc (c_lines_fields ((Lib.cut s ([35] : List UInt8)).1) _ (by first | omega | decide | rfl)) ?_)))))))))
 rintro f i ⟨_, rfl, a, d⟩
 have b := b.tr e
 have a := a.base b.size
 refine zD (zc (vO ((Lib.cut s ([35] : List UInt8)).2.1) _ (by first | omega | decide | rfl)) ?_)
 rintro _ h ⟨rfl, c⟩
 have := qR ((Lib.cut s ([35] : List UInt8)).2.1)
 have b := (b.tr d).tr c
 have a := a.below c
 exact zG (zG (nQ (zS (yC [f, (S (trmF ((Lib.cut s ([35] : List UInt8)).2.1)))] ⟨f, xE rfl (congrArg S (by rfl)), a.cast (by rfl), b⟩))))
theorem c_lines_named (s : List UInt8) (w : World) (hs : s.length ≤ 1073741824) :
  Calls Tryz.prog 73 #[(S s)] w (Ret fun v w' => v = (.bool (nameF s)) ∧ Below w.heap.size w w') := by
 refine wI 35 func73 rfl ?_
 have e := Below.refl w.heap.size w
 refine wR (zG (nW (wR (zD (L_range s underlying9 zk ?_)))))
 intro p w2 k
 have c := k.ge e.size
 have d := k.here
 refine nQ (zX ?_)
 replace e := e.tr k.below
 refine yZ (fun m s0 w0 => ∃ (pos : Nat), (m = s.length - pos) ∧ (s0.ds = []) ∧ ([0, 6].map s0.f = [(S s), (pt p 0)]) ∧ (w0.heap[p]? = some (.stringIter ⟨(s).toArray⟩ pos)) ∧ (Below w.heap.size w w0) ∧ (pos ≤ s.length) ∧ ((s.drop pos).all nmB = s.all nmB)) _ ⟨0, rfl, zk, zk, d, e, by omega, rfl⟩ ?_
 rintro m4 s5 w6 ⟨pos, hm, g, q, d, e, i1, i⟩
 refine yS q (wR ?_)
 rcases Nat.lt_or_ge pos (s).length with a | j
 ·refine L_next s p pos zk d a ?_
  intro b w7 o h
  replace d := h.here
  have := dec_pos s pos; have := dec_fits s pos a; have := dec_le s pos
  have n : 0 ≤ b := by omega
  have l : b ≤ 2147483647 := by omega
  refine zr (.bool true) (nW (zT (zK (zB (zX (wR (zr (I3 b) (zG (nQ (zX (zY (wR (zD (zGe .i32 b 65 ?_ ?_))))))))))))))
  ·intro h9
   refine zD (zw (zD (zw (zLe .i32 b 90 ?_ ?_))))
   ·intro bd
    refine xG (zG (nQ (zT (zK (zB (zT (zK (zI (zI ?_)))))))))
    replace e := e.trans (h.below c)
    exact zB ⟨_, zo, (pos + (dec s pos).2), rfl, g, zk, d, e, zo, vC a zo i⟩
   intro bq
   refine xG (zG (nQ (zF (wR (zD (zGe .i32 b 97 ?_ ?_))))))
   ·intro ba
    refine zD (zw (zD (zw (zLe .i32 b 122 ?_ ?_))))
    ·intro ah
     refine xG (zG (nQ (zT (zK (zB (zT (zK (zI (zI ?_)))))))))
     replace e := e.trans (h.below c)
     exact zB ⟨_, zo, (pos + (dec s pos).2), rfl, g, zk, d, e, zo, vC a zo i⟩
    intro ak
    refine xG (zG (nQ (zF (wR (zD (zGe .i32 b 48 ?_ ?_))))))
    ·intro bt
     refine zD (zw (zD (zw (zLe .i32 b 57 ?_ ?_))))
     ·intro ae
      refine xG (zG (nQ (zT (zK (zB (zT (zK (zI (zI ?_)))))))))
      replace e := e.trans (h.below c)
      exact zB ⟨_, zo, (pos + (dec s pos).2), rfl, g, zk, d, e, zo, vC a zo i⟩
     intro r
     refine xG (zG (nQ (zF (wR (zD (qA .i32 b 95 ?_ ?_))))))
     ·intro be
      refine zG (nQ (zT (zK (zB (zT (zK (zI (zI ?_))))))))
      replace e := e.trans (h.below c)
      exact zB ⟨_, zo, (pos + (dec s pos).2), rfl, g, zk, d, e, zo, vC a zo i⟩
     intro aa
     refine zG (nQ (zF (zQ (zD (qA .i32 b 45 ?_ ?_)))))
     ·intro aq
      refine zG (nQ (zT (zK (zI (zI ?_)))))
      replace e := e.trans (h.below c)
      exact zB ⟨_, zo, (pos + (dec s pos).2), rfl, g, zk, d, e, zo, vC a zo i⟩
     intro az
     replace e := e.trans (h.below c)
     exact zG (nQ (zF (wR (zG (nQ (zS (zP (zP (zH (zP (zH (yC [(.bool false)] (hd := g) ⟨eb (by exact (nm_off a zo i).symm), e⟩))))))))))))
    intro al
    refine zD (zs (zs (xF (zG (nQ (zF (wR (zD (qA .i32 b 95 ?_ ?_)))))))))
    ·intro bs
     refine zG (nQ (zT (zK (zB (zT (zK (zI (zI ?_))))))))
     replace e := e.trans (h.below c)
     exact zB ⟨_, zo, (pos + (dec s pos).2), rfl, g, zk, d, e, zo, vC a zo i⟩
    intro y
    refine zG (nQ (zF (zQ (zD (qA .i32 b 45 ?_ ?_)))))
    ·intro af
     refine zG (nQ (zT (zK (zI (zI ?_)))))
     replace e := e.trans (h.below c)
     exact zB ⟨_, zo, (pos + (dec s pos).2), rfl, g, zk, d, e, zo, vC a zo i⟩
    intro bm
    replace e := e.trans (h.below c)
    exact zG (nQ (zF (wR (zG (nQ (zS (zP (zP (zH (zP (zH (yC [(.bool false)] (hd := g) ⟨eb (by exact (nm_off a zo i).symm), e⟩))))))))))))
   intro ar
   refine zD (zs (zs (xF (zG (nQ (zF (wR (zD (zGe .i32 b 48 ?_ ?_)))))))))
   ·intro a9
    refine zD (zw (zD (zw (zLe .i32 b 57 ?_ ?_))))
    ·intro bj
     refine xG (zG (nQ (zT (zK (zB (zT (zK (zI (zI ?_)))))))))
     replace e := e.trans (h.below c)
     exact zB ⟨_, zo, (pos + (dec s pos).2), rfl, g, zk, d, e, zo, vC a zo i⟩
    intro bn
    refine xG (zG (nQ (zF (wR (zD (qA .i32 b 95 ?_ ?_))))))
    ·intro aw
     refine zG (nQ (zT (zK (zB (zT (zK (zI (zI ?_))))))))
     replace e := e.trans (h.below c)
     exact zB ⟨_, zo, (pos + (dec s pos).2), rfl, g, zk, d, e, zo, vC a zo i⟩
    intro ab
    refine zG (nQ (zF (zQ (zD (qA .i32 b 45 ?_ ?_)))))
    ·intro br
     refine zG (nQ (zT (zK (zI (zI ?_)))))
     replace e := e.trans (h.below c)
     exact zB ⟨_, zo, (pos + (dec s pos).2), rfl, g, zk, d, e, zo, vC a zo i⟩
    intro ap
    replace e := e.trans (h.below c)
    exact zG (nQ (zF (wR (zG (nQ (zS (zP (zP (zH (zP (zH (yC [(.bool false)] (hd := g) ⟨eb (by exact (nm_off a zo i).symm), e⟩))))))))))))
   intro an
   refine zD (zs (zs (xF (zG (nQ (zF (wR (zD (qA .i32 b 95 ?_ ?_)))))))))
   ·intro ax
    refine zG (nQ (zT (zK (zB (zT (zK (zI (zI ?_))))))))
    replace e := e.trans (h.below c)
    exact zB ⟨_, zo, (pos + (dec s pos).2), rfl, g, zk, d, e, zo, vC a zo i⟩
   intro a6
   refine zG (nQ (zF (zQ (zD (qA .i32 b 45 ?_ ?_)))))
   ·intro u
    refine zG (nQ (zT (zK (zI (zI ?_)))))
    replace e := e.trans (h.below c)
    exact zB ⟨_, zo, (pos + (dec s pos).2), rfl, g, zk, d, e, zo, vC a zo i⟩
   intro ac
   replace e := e.trans (h.below c)
   exact zG (nQ (zF (wR (zG (nQ (zS (zP (zP (zH (zP (zH (yC [(.bool false)] (hd := g) ⟨eb (by exact (nm_off a zo i).symm), e⟩))))))))))))
  intro a7
  refine zD (zs (zs (xF (zG (nQ (zF (wR (zD (zGe .i32 b 97 ?_ ?_)))))))))
  ·intro a8
   refine zD (zw (zD (zw (zLe .i32 b 122 ?_ ?_))))
   ·intro bf
    refine xG (zG (nQ (zT (zK (zB (zT (zK (zI (zI ?_)))))))))
    replace e := e.trans (h.below c)
    exact zB ⟨_, zo, (pos + (dec s pos).2), rfl, g, zk, d, e, zo, vC a zo i⟩
   intro bb
   refine xG (zG (nQ (zF (wR (zD (zGe .i32 b 48 ?_ ?_))))))
   ·intro z
    refine zD (zw (zD (zw (zLe .i32 b 57 ?_ ?_))))
    ·intro am
     refine xG (zG (nQ (zT (zK (zB (zT (zK (zI (zI ?_)))))))))
     replace e := e.trans (h.below c)
     exact zB ⟨_, zo, (pos + (dec s pos).2), rfl, g, zk, d, e, zo, vC a zo i⟩
    intro au
    refine xG (zG (nQ (zF (wR (zD (qA .i32 b 95 ?_ ?_))))))
    ·intro bu
     refine zG (nQ (zT (zK (zB (zT (zK (zI (zI ?_))))))))
     replace e := e.trans (h.below c)
     exact zB ⟨_, zo, (pos + (dec s pos).2), rfl, g, zk, d, e, zo, vC a zo i⟩
    intro ay
    refine zG (nQ (zF (zQ (zD (qA .i32 b 45 ?_ ?_)))))
    ·intro ao
     refine zG (nQ (zT (zK (zI (zI ?_)))))
     replace e := e.trans (h.below c)
     exact zB ⟨_, zo, (pos + (dec s pos).2), rfl, g, zk, d, e, zo, vC a zo i⟩
    intro av
    replace e := e.trans (h.below c)
    exact zG (nQ (zF (wR (zG (nQ (zS (zP (zP (zH (zP (zH (yC [(.bool false)] (hd := g) ⟨eb (by exact (nm_off a zo i).symm), e⟩))))))))))))
   intro bi
   refine zD (zs (zs (xF (zG (nQ (zF (wR (zD (qA .i32 b 95 ?_ ?_)))))))))
   ·intro bv
    refine zG (nQ (zT (zK (zB (zT (zK (zI (zI ?_))))))))
    replace e := e.trans (h.below c)
    exact zB ⟨_, zo, (pos + (dec s pos).2), rfl, g, zk, d, e, zo, vC a zo i⟩
   intro a2
   refine zG (nQ (zF (zQ (zD (qA .i32 b 45 ?_ ?_)))))
   ·intro a1
    refine zG (nQ (zT (zK (zI (zI ?_)))))
    replace e := e.trans (h.below c)
    exact zB ⟨_, zo, (pos + (dec s pos).2), rfl, g, zk, d, e, zo, vC a zo i⟩
   intro ad
   replace e := e.trans (h.below c)
   exact zG (nQ (zF (wR (zG (nQ (zS (zP (zP (zH (zP (zH (yC [(.bool false)] (hd := g) ⟨eb (by exact (nm_off a zo i).symm), e⟩))))))))))))
  intro bk
  refine zD (zs (zs (xF (zG (nQ (zF (wR (zD (zGe .i32 b 48 ?_ ?_)))))))))
  ·intro t
   refine zD (zw (zD (zw (zLe .i32 b 57 ?_ ?_))))
   ·intro a0
    refine xG (zG (nQ (zT (zK (zB (zT (zK (zI (zI ?_)))))))))
    replace e := e.trans (h.below c)
    exact zB ⟨_, zo, (pos + (dec s pos).2), rfl, g, zk, d, e, zo, vC a zo i⟩
   intro a5
   refine xG (zG (nQ (zF (wR (zD (qA .i32 b 95 ?_ ?_))))))
   ·intro a3
    refine zG (nQ (zT (zK (zB (zT (zK (zI (zI ?_))))))))
    replace e := e.trans (h.below c)
    exact zB ⟨_, zo, (pos + (dec s pos).2), rfl, g, zk, d, e, zo, vC a zo i⟩
   intro ai
   refine zG (nQ (zF (zQ (zD (qA .i32 b 45 ?_ ?_)))))
   ·intro aj
    refine zG (nQ (zT (zK (zI (zI ?_)))))
    replace e := e.trans (h.below c)
    exact zB ⟨_, zo, (pos + (dec s pos).2), rfl, g, zk, d, e, zo, vC a zo i⟩
   intro bh
   replace e := e.trans (h.below c)
   exact zG (nQ (zF (wR (zG (nQ (zS (zP (zP (zH (zP (zH (yC [(.bool false)] (hd := g) ⟨eb (by exact (nm_off a zo i).symm), e⟩))))))))))))
  intro bo
  refine zD (zs (zs (xF (zG (nQ (zF (wR (zD (qA .i32 b 95 ?_ ?_)))))))))
  ·intro bg
   refine zG (nQ (zT (zK (zB (zT (zK (zI (zI ?_))))))))
   replace e := e.trans (h.below c)
   exact zB ⟨_, zo, (pos + (dec s pos).2), rfl, g, zk, d, e, zo, vC a zo i⟩
  intro bc
  refine zG (nQ (zF (zQ (zD (qA .i32 b 45 ?_ ?_)))))
  ·intro a4
   refine zG (nQ (zT (zK (zI (zI ?_)))))
   replace e := e.trans (h.below c)
   exact zB ⟨_, zo, (pos + (dec s pos).2), rfl, g, zk, d, e, zo, vC a zo i⟩
  intro ag
  replace e := e.trans (h.below c)
  exact zG (nQ (zF (wR (zG (nQ (zS (zP (zP (zH (zP (zH (yC [(.bool false)] (hd := g) ⟨eb (by exact (nm_off a zo i).symm), e⟩))))))))))))
 refine L_nextEnd s p pos zk d j (zr (.bool false) (nW (zF (yH (zL (zL (yB (zB (wR (zD (L_sne s ([] : List UInt8) rfl zk zk ?_ ?_)))))))))))
 ·intro bp
  exact zG (nQ (zS (yC [(.bool true)] (hd := g) ⟨eb (by (rw [nm_end zo i]; simp [*]; done)), e⟩)))
 intro bl
 exact zG (nQ (zS (yC [(.bool false)] (hd := g) ⟨eb (by (rw [nm_end zo i]; simp [*]; done)), e⟩)))
theorem c_lines_pieces (s : List UInt8) (w : World) (hs : s.length ≤ 1073741824) :
  Calls Tryz.prog 67 #[(S s)] w (Ret fun v w' => ∃ (q0 : Value), v = q0 ∧ Row w' w.heap.size 129 3 encPc q0 (pcsI s) ∧ Below w.heap.size w w') := by
 refine wI 53 func67 rfl ?_
 have g := Below.refl w.heap.size w
 have bs := mark_len s
 refine wR (zG (nR (zG (nR (zG (nW (wR (zD (zc (wC s ([239, 187, 191] : List UInt8) _ ) ?_)))))))))
 rintro _ w1 ⟨rfl, a4⟩
 refine yK (hpB s ([239, 187, 191] : List UInt8)) ?_ ?_
 ·intro h4
  have := hp_len h4; simp only [List.length_cons, List.length_nil] at this
  refine nQ (zT (zQ (zG (nQ (zX ?_)))))
  replace g := g.tr a4
  refine yZ (fun m s0 w0 => ∃ (a : Int) (h : List (Int × Int × Int)) (i : Value), (m = s.length - a.toNat) ∧ (s0.ds = []) ∧ ([0, 3, 4].map s0.f = [(S s), i, (I6 a)]) ∧ (Row w0 w.heap.size 129 3 encPc i h) ∧ (Below w.heap.size w w0) ∧ (0 ≤ a) ∧ (a ≤ s.length) ∧ (h.length ≤ a.toNat) ∧ (h ++ (pcsFrom s a.toNat a.toNat).map toI = pcsI s)) _ ⟨3, [], (.slice none 0 0), rfl, zk, zk, Row.nil _ _ _ _ _, g, by omega, by omega, zi, (by simp [pcsI, markN, markT, *])⟩ ?_
  rintro m5 s6 w7 ⟨a, h, i, hm, q, ap, d, g, i1, i2, i4, i3⟩
  refine yS ap ?_
  have bn : (List.drop a.toNat s).length = s.length - a.toNat := List.length_drop
  refine zX (wR (zD (zD (qD s ((a).toNat) underlying9 zk (toNat_val a .i64 zk zo) zo (zc (qG (List.drop ((a).toNat) s) 10 _ ) ?_)))))
  rintro _ w8 ⟨rfl, ab⟩
  have := ib_range (List.drop ((a).toNat) s) 10
  refine zG (nW (wR (zD (zLt .i64 (ibF (List.drop ((a).toNat) s) 10) 0 ?_ ?_))))
  ·intro ch
   replace g := g.tr ab
   replace d := d.below ab
   refine nQ (zT (wR (zD (zD (zD (zsl 9 s (zD (zsl 9 s (zr (Value.agg #[(I6 a), (N6 ((s).length)), (N6 ((s).length))]) (xW el126 w.heap.size i h (a, (((s).length : Nat) : Int), (((s).length : Nat) : Int)) g.size d zo zk rfl rfl zk rfl zk zk ?_))))))))))
   intro a8 cc ax ar bk
   replace g := g.tg g.size ar d
   replace d := ax
   exact zG (nQ (zS (zH (zP (zH (zP (yC [a8] (hd := q) ⟨a8, rfl, d.cast (by exact pcsZ_end i1 i2 zo i3), g⟩)))))))
  intro bo
  refine nQ (zF (zK (zB (wR (zD (zD (zD (xQ a (ibF (List.drop ((a).toNat) s) 10) (a + (ibF (List.drop ((a).toNat) s) 10)) rfl zk zk (yW _ zh zh) (zD (zD (xQ a (ibF (List.drop ((a).toNat) s) 10) (a + (ibF (List.drop ((a).toNat) s) 10)) rfl zk zk (yW _ zh zh) (xQ (a + (ibF (List.drop ((a).toNat) s) 10)) 1 ((a + (ibF (List.drop ((a).toNat) s) 10)) + 1) rfl zk zk (yW _ zh zh) (zr (Value.agg #[(I6 a), (I6 (a + (ibF (List.drop ((a).toNat) s) 10))), (I6 ((a + (ibF (List.drop ((a).toNat) s) 10)) + 1))]) (zN [(I6 0), (I6 0), (I6 0)] 129 ?_))))))))))))))
  intro ay b0 n
  replace g := g.tr ab
  have l := n.ge g.size
  replace d := d.below ab
  have b := d.new_ne n
  have c := n.here
  refine wG [(I6 a), (I6 (a + (ibF (List.drop ((a).toNat) s) 10))), (I6 ((a + (ibF (List.drop ((a).toNat) s) 10)) + 1))] c ?_
  intro bw p
  replace c := p.here
  refine nW (wR (zD (zGt .i64 (ibF (List.drop ((a).toNat) s) 10) 0 ?_ ?_)))
  ·intro ci
   refine zD (zw (zD (zw (zr (pt ay 1) (zw (zO 1 c rfl (zw (xQ (a + (ibF (List.drop ((a).toNat) s) 10)) 1 ((a + (ibF (List.drop ((a).toNat) s) 10)) - 1) rfl zk zk (yW _ zh zh) (zw ?_)))))))))
   have hz := zV s (((a + (ibF (List.drop ((a).toNat) s) 10)) - 1).toNat) zo; obtain ⟨r, aq⟩ := hz
   have := r.toNat_lt
   refine L_sindexZ (k := .i64) s ((a + (ibF (List.drop ((a).toNat) s) 10)) - 1) (((a + (ibF (List.drop ((a).toNat) s) 10)) - 1).toNat) r zo underlying9 aq zk zk (zw (xJ .u8 ((r.toNat : Nat) : Int) ((13 : Nat) : Int) (r.toNat = 13) rfl (xK r.toNat 13) zk zk ?_ ?_))
   ·intro bm
    replace bm : r.toNat = 13 := by omega
    refine xG (nQ (zT (zQ (uF 1 c rfl (xQ (a + (ibF (List.drop ((a).toNat) s) 10)) 1 ((a + (ibF (List.drop ((a).toNat) s) 10)) - 1) rfl zk zk (yW _ zh zh) (zr (pt ay 1) (z1 1 (I6 ((a + (ibF (List.drop ((a).toNat) s) 10)) - 1)) [(I6 a), (I6 ((a + (ibF (List.drop ((a).toNat) s) 10)) - 1)), (I6 ((a + (ibF (List.drop ((a).toNat) s) 10)) + 1))] c ?_)))))))
    intro bz y
    replace c := y.here
    replace g := ((g.tr n.below).trans (p.below l)).trans (y.below l)
    replace d := ((d.below n.below).wrote p b).wrote y b
    refine nR (zD (zOW c (xW el126 w.heap.size i h (a, ((a + (ibF (List.drop ((a).toNat) s) 10)) - 1), ((a + (ibF (List.drop ((a).toNat) s) 10)) + 1)) g.size d zo zk rfl rfl zk rfl zk zk ?_)))
    intro bf ce a5 ah an
    have e := wM an b (yA c)
    replace g := g.tg g.size ah d
    replace c := yG c ah b
    have b := e
    replace d := a5
    refine zG (nQ (zQ (uF 2 c rfl (zG (zR (zI (zB ⟨_, zo, ((a + (ibF (List.drop ((a).toNat) s) 10)) + 1), (h ++ [(a, ((a + (ibF (List.drop ((a).toNat) s) 10)) - 1), ((a + (ibF (List.drop ((a).toNat) s) 10)) + 1))]), bf, rfl, q, zk, d, g, zo, zo, ?_, ?_⟩)))))))
    ·simp only [List.length_append, List.length_cons, List.length_nil]; omega
    exact pcsZ_step i1 rfl zo (.inl ⟨rfl, by omega, _, by assumption, by assumption⟩) i3
   intro bc
   replace bc : r.toNat ≠ 13 := by omega
   replace g := (g.tr n.below).trans (p.below l)
   replace d := (d.below n.below).wrote p b
   refine xG (nQ (zF (zK (zB (wR (zD (zOW c (xW el126 w.heap.size i h (a, (a + (ibF (List.drop ((a).toNat) s) 10)), ((a + (ibF (List.drop ((a).toNat) s) 10)) + 1)) g.size d zo zk rfl rfl zk rfl zk zk ?_))))))))
   intro bh bt aw ai ak
   have e := wM ak b (yA c)
   replace g := g.tg g.size ai d
   replace c := yG c ai b
   have b := e
   replace d := aw
   refine zG (nQ (zQ (uF 2 c rfl (zG (zR (zI (zB ⟨_, zo, ((a + (ibF (List.drop ((a).toNat) s) 10)) + 1), (h ++ [(a, (a + (ibF (List.drop ((a).toNat) s) 10)), ((a + (ibF (List.drop ((a).toNat) s) 10)) + 1))]), bh, rfl, q, zk, d, g, zo, zo, ?_, ?_⟩)))))))
   ·simp only [List.length_append, List.length_cons, List.length_nil]; omega
   exact pcsZ_step i1 rfl zo (.inr ⟨rfl, .inr ⟨_, by assumption, by assumption⟩⟩) i3
  intro b7
  replace g := (g.tr n.below).trans (p.below l)
  replace d := (d.below n.below).wrote p b
  refine zD (zs (zs (zs (zs (zs (zs (xF (nQ (zF (zK (zB (wR (zD (zOW c (xW el126 w.heap.size i h (a, (a + (ibF (List.drop ((a).toNat) s) 10)), ((a + (ibF (List.drop ((a).toNat) s) 10)) + 1)) g.size d zo zk rfl rfl zk rfl zk zk ?_)))))))))))))))
  intro bj b2 a3 ag al
  have e := wM al b (yA c)
  replace g := g.tg g.size ag d
  replace c := yG c ag b
  have b := e
  replace d := a3
  refine zG (nQ (zQ (uF 2 c rfl (zG (zR (zI (zB ⟨_, zo, ((a + (ibF (List.drop ((a).toNat) s) 10)) + 1), (h ++ [(a, (a + (ibF (List.drop ((a).toNat) s) 10)), ((a + (ibF (List.drop ((a).toNat) s) 10)) + 1))]), bj, rfl, q, zk, d, g, zo, zo, ?_, ?_⟩)))))))
  ·simp only [List.length_append, List.length_cons, List.length_nil]; omega
  exact pcsZ_step i1 rfl zo (.inr ⟨rfl, .inl zo⟩) i3
 intro bx
 refine nQ (zF (zK (zB (zX ?_))))
 replace g := g.tr a4
 refine yZ (fun m s0 w0 => ∃ (a : Int) (h : List (Int × Int × Int)) (i : Value), (m = s.length - a.toNat) ∧ (s0.ds = []) ∧ ([0, 3, 4].map s0.f = [(S s), i, (I6 a)]) ∧ (Row w0 w.heap.size 129 3 encPc i h) ∧ (Below w.heap.size w w0) ∧ (0 ≤ a) ∧ (a ≤ s.length) ∧ (h.length ≤ a.toNat) ∧ (h ++ (pcsFrom s a.toNat a.toNat).map toI = pcsI s)) _ ⟨0, [], (.slice none 0 0), rfl, zk, zk, Row.nil _ _ _ _ _, g, by omega, by omega, zi, (by simp [pcsI, markN, markT, *])⟩ ?_
 rintro cj cg bv ⟨a, h, i, hm, q, ap, d, g, i1, i2, i4, i3⟩
 refine yS ap ?_
 have bn : (List.drop a.toNat s).length = s.length - a.toNat := List.length_drop
 refine zX (wR (zD (zD (qD s ((a).toNat) underlying9 zk (toNat_val a .i64 zk zo) zo (zc (qG (List.drop ((a).toNat) s) 10 _ ) ?_)))))
 rintro _ bp ⟨rfl, u⟩
 have := ib_range (List.drop ((a).toNat) s) 10
 refine zG (nW (wR (zD (zLt .i64 (ibF (List.drop ((a).toNat) s) 10) 0 ?_ ?_))))
 ·intro b5
  replace g := g.tr u
  replace d := d.below u
  refine nQ (zT (wR (zD (zD (zD (zsl 9 s (zD (zsl 9 s (zr (Value.agg #[(I6 a), (N6 ((s).length)), (N6 ((s).length))]) (xW el126 w.heap.size i h (a, (((s).length : Nat) : Int), (((s).length : Nat) : Int)) g.size d zo zk rfl rfl zk rfl zk zk ?_))))))))))
  intro a0 bu a2 au bb
  replace g := g.tg g.size au d
  replace d := a2
  exact zG (nQ (zS (zH (zP (zH (zP (yC [a0] (hd := q) ⟨a0, rfl, d.cast (by exact pcsZ_end i1 i2 zo i3), g⟩)))))))
 intro b6
 refine nQ (zF (zK (zB (wR (zD (zD (zD (xQ a (ibF (List.drop ((a).toNat) s) 10) (a + (ibF (List.drop ((a).toNat) s) 10)) rfl zk zk (yW _ zh zh) (zD (zD (xQ a (ibF (List.drop ((a).toNat) s) 10) (a + (ibF (List.drop ((a).toNat) s) 10)) rfl zk zk (yW _ zh zh) (xQ (a + (ibF (List.drop ((a).toNat) s) 10)) 1 ((a + (ibF (List.drop ((a).toNat) s) 10)) + 1) rfl zk zk (yW _ zh zh) (zr (Value.agg #[(I6 a), (I6 (a + (ibF (List.drop ((a).toNat) s) 10))), (I6 ((a + (ibF (List.drop ((a).toNat) s) 10)) + 1))]) (zN [(I6 0), (I6 0), (I6 0)] 129 ?_))))))))))))))
 intro az b8 j
 replace g := g.tr u
 have l := j.ge g.size
 replace d := d.below u
 have b := d.new_ne j
 have c := j.here
 refine wG [(I6 a), (I6 (a + (ibF (List.drop ((a).toNat) s) 10))), (I6 ((a + (ibF (List.drop ((a).toNat) s) 10)) + 1))] c ?_
 intro bq o
 replace c := o.here
 refine nW (wR (zD (zGt .i64 (ibF (List.drop ((a).toNat) s) 10) 0 ?_ ?_)))
 ·intro cb
  refine zD (zw (zD (zw (zr (pt az 1) (zw (zO 1 c rfl (zw (xQ (a + (ibF (List.drop ((a).toNat) s) 10)) 1 ((a + (ibF (List.drop ((a).toNat) s) 10)) - 1) rfl zk zk (yW _ zh zh) (zw ?_)))))))))
  have hz := zV s (((a + (ibF (List.drop ((a).toNat) s) 10)) - 1).toNat) zo; obtain ⟨t, a6⟩ := hz
  have := t.toNat_lt
  refine L_sindexZ (k := .i64) s ((a + (ibF (List.drop ((a).toNat) s) 10)) - 1) (((a + (ibF (List.drop ((a).toNat) s) 10)) - 1).toNat) t zo underlying9 a6 zk zk (zw (xJ .u8 ((t.toNat : Nat) : Int) ((13 : Nat) : Int) (t.toNat = 13) rfl (xK t.toNat 13) zk zk ?_ ?_))
  ·intro ba
   replace ba : t.toNat = 13 := by omega
   refine xG (nQ (zT (zQ (uF 1 c rfl (xQ (a + (ibF (List.drop ((a).toNat) s) 10)) 1 ((a + (ibF (List.drop ((a).toNat) s) 10)) - 1) rfl zk zk (yW _ zh zh) (zr (pt az 1) (z1 1 (I6 ((a + (ibF (List.drop ((a).toNat) s) 10)) - 1)) [(I6 a), (I6 ((a + (ibF (List.drop ((a).toNat) s) 10)) - 1)), (I6 ((a + (ibF (List.drop ((a).toNat) s) 10)) + 1))] c ?_)))))))
   intro ca z
   replace c := z.here
   replace g := ((g.tr j.below).trans (o.below l)).trans (z.below l)
   replace d := ((d.below j.below).wrote o b).wrote z b
   refine nR (zD (zOW c (xW el126 w.heap.size i h (a, ((a + (ibF (List.drop ((a).toNat) s) 10)) - 1), ((a + (ibF (List.drop ((a).toNat) s) 10)) + 1)) g.size d zo zk rfl rfl zk rfl zk zk ?_)))
   intro be b3 av af aj
   have e := wM aj b (yA c)
   replace g := g.tg g.size af d
   replace c := yG c af b
   have b := e
   replace d := av
   refine zG (nQ (zQ (uF 2 c rfl (zG (zR (zI (zB ⟨_, zo, ((a + (ibF (List.drop ((a).toNat) s) 10)) + 1), (h ++ [(a, ((a + (ibF (List.drop ((a).toNat) s) 10)) - 1), ((a + (ibF (List.drop ((a).toNat) s) 10)) + 1))]), be, rfl, q, zk, d, g, zo, zo, ?_, ?_⟩)))))))
   ·simp only [List.length_append, List.length_cons, List.length_nil]; omega
   exact pcsZ_step i1 rfl zo (.inl ⟨rfl, by omega, _, by assumption, by assumption⟩) i3
  intro bl
  replace bl : t.toNat ≠ 13 := by omega
  replace g := (g.tr j.below).trans (o.below l)
  replace d := (d.below j.below).wrote o b
  refine xG (nQ (zF (zK (zB (wR (zD (zOW c (xW el126 w.heap.size i h (a, (a + (ibF (List.drop ((a).toNat) s) 10)), ((a + (ibF (List.drop ((a).toNat) s) 10)) + 1)) g.size d zo zk rfl rfl zk rfl zk zk ?_))))))))
  intro bi cf a1 ae am
  have e := wM am b (yA c)
  replace g := g.tg g.size ae d
  replace c := yG c ae b
  have b := e
  replace d := a1
  refine zG (nQ (zQ (uF 2 c rfl (zG (zR (zI (zB ⟨_, zo, ((a + (ibF (List.drop ((a).toNat) s) 10)) + 1), (h ++ [(a, (a + (ibF (List.drop ((a).toNat) s) 10)), ((a + (ibF (List.drop ((a).toNat) s) 10)) + 1))]), bi, rfl, q, zk, d, g, zo, zo, ?_, ?_⟩)))))))
  ·simp only [List.length_append, List.length_cons, List.length_nil]; omega
  exact pcsZ_step i1 rfl zo (.inr ⟨rfl, .inr ⟨_, by assumption, by assumption⟩⟩) i3
 intro cd
 replace g := (g.tr j.below).trans (o.below l)
 replace d := (d.below j.below).wrote o b
 refine zD (zs (zs (zs (zs (zs (zs (xF (nQ (zF (zK (zB (wR (zD (zOW c (xW el126 w.heap.size i h (a, (a + (ibF (List.drop ((a).toNat) s) 10)), ((a + (ibF (List.drop ((a).toNat) s) 10)) + 1)) g.size d zo zk rfl rfl zk rfl zk zk ?_)))))))))))))))
 intro bd br a7 ad ao
 have e := wM ao b (yA c)
 replace g := g.tg g.size ad d
 replace c := yG c ad b
 have b := e
 replace d := a7
 refine zG (nQ (zQ (uF 2 c rfl (zG (zR (zI (zB ⟨_, zo, ((a + (ibF (List.drop ((a).toNat) s) 10)) + 1), (h ++ [(a, (a + (ibF (List.drop ((a).toNat) s) 10)), ((a + (ibF (List.drop ((a).toNat) s) 10)) + 1))]), bd, rfl, q, zk, d, g, zo, zo, ?_, ?_⟩)))))))
 ·simp only [List.length_append, List.length_cons, List.length_nil]; omega
 exact pcsZ_step i1 rfl zo (.inr ⟨rfl, .inl zo⟩) i3
theorem it_lines_Each_1 (z : Nat) (s : List UInt8) (hs : s.length ≤ 1073741824) :
  Iter (α := Int × List UInt8) Tryz.prog 66 [.pointer (some ⟨z, 0, none⟩)] (fun x => [.int .i64 x.1, S x.2]) (toldF s) (fun w => w.heap[z]? = some (.cells [(S s)].toArray 9 (0, 0))) := by
 intro l J Jx w hN h0 af aw hY
 refine wI 30 func66 rfl ?_
 have hb := Below.refl w.heap.size w
 have hs : w.heap.size ≤ w.heap.size := Nat.le_refl _
 have a := hN
 refine wR (zO 0 a rfl (zc (c_lines_pieces s _ zo) ?_))
 rintro q1 w2 ⟨_, rfl, b, ad⟩
 have b := b.base hs
 have hb := hb.trans (ad.mono hs)
 replace hs := Nat.le_trans hs (ad.size)
 have := pcsI_len s
 refine zln underlying126 (b.rd).len (zD (nQ (zX ?_)))
 have r := h0 _ hb
 obtain ⟨K, al⟩ : ∃ K, K = w2.heap.size := ⟨_, rfl⟩
 rw [← al] at r
 have u : K ≤ w2.heap.size := by omega
 have ai : w.heap.size ≤ K := by omega
 have t : ∀ g, Value.ownBlock q1 = some g → Iv w.heap.size K g := fun g hg => by have := World.ownsRow.lt b g hg; exact ⟨this.1, by omega⟩
 have a := zA a ad
 refine yZ (fun m s0 w0 => ∃ (i : Nat) (q : List (Int × List UInt8)), (m = (pcsI s).length - i) ∧ (s0.ds = []) ∧ ([0, 1, 6, 7, 8].map s0.f = [(.func (.yield l) #[] #[]), (pt z 0), q1, (N6 ((pcsI s).length)), (N6 i)]) ∧ (Row w0 w.heap.size 129 3 encPc q1 (pcsI s)) ∧ (w0.heap[z]? = some (.cells [(S s)].toArray 9 (0, 0))) ∧ (w.heap.size ≤ w0.heap.size) ∧ (K ≤ w0.heap.size) ∧ (J K q w0) ∧ (i ≤ (pcsI s).length) ∧ (q ++ toldL s i ((pcsI s).drop i) = toldF s)) _ ⟨0, [], rfl, zk, zk, b, a, hs, u, r, by omega, rfl⟩ ?_
 rintro m5 s6 w7 ⟨i, q, hm, aa, an, b, a, hs, u, r, i1, i3⟩
 refine yS an (wR (nLt i ((pcsI s).length) ?_ ?_))
 ·intro h8
  refine nW (zT (zK (zB (zY (zX (wR (zD ?_)))))))
  have hz := zV (pcsI s) i zo; obtain ⟨o, ab⟩ := hz
  have aq := pcsI_ok ab
  obtain ⟨a0, a1, a6, ba⟩ := aq
  refine zEA b.rd el126 i ab [(I6 o.1), (I6 o.2.1), (I6 o.2.2)] rfl fun _ => (zN [(I6 0), (I6 0), (I6 0)] 129 ?_)
  intro ag a2 c
  have ar := c.ge hs
  have p := Ch.refl (Iv w.heap.size K) w7
  have y : (World.heap w7).size ≤ ag ∨ Iv w.heap.size K ag := .inl (by rw [c.num]; exact p.size)
  have n := b.new_ne c
  replace u := Nat.le_trans u (c.below.size)
  replace hs := Nat.le_trans hs (c.below.size)
  have d := c.here
  refine zG (wG [(I6 o.1), (I6 o.2.1), (I6 o.2.2)] d ?_)
  intro a7 j
  replace u := Nat.le_trans u (Nat.le_of_eq j.size.symm)
  replace hs := Nat.le_trans hs (Nat.le_of_eq j.size.symm)
  have a := zA a c.below
  have a := zC a j (zJ a d zi)
  have d := j.here
  refine nW (wR (uF 0 d rfl (uF 2 d rfl (qA .i64 o.1 o.2.2 ?_ ?_))))
  ·intro a4
   refine nQ (zT (zS (zH (zP (zH (zH (zP (yC [] (hd := aa) ?_))))))))
   replace p := (p.trans2 (Ch.of_below c.below) (fun _ h => h.elim)).trans2 (Ch.of_wrote j) (fun k e => e ▸ y)
   replace r := af _ _ _ _ r p
   clear p
   have v : q = toldF s := by exact told_stop za za i3
   rw [v] at r
   exact ⟨hs, Or.inl ⟨K, r⟩⟩
  intro ax
  refine nQ (zF (zK (zB (wR (zD (zD (xL i 1 (zO 0 a rfl (uF 0 d rfl (uF 1 d rfl (L_sslice s ((o.1).toNat) ((o.2.1).toNat) underlying9 zk (toNat_val o.1 .i64 zk zo) (toNat_val o.2.1 .i64 zk zo) zo zo ?_)))))))))))
  replace p := (p.trans2 (Ch.of_below c.below) (fun _ h => h.elim)).trans2 (Ch.of_wrote j) (fun k e => e ▸ y)
  replace r := af _ _ _ _ r p
  clear p
  have ac : q ++ [((((i + 1) : Nat) : Int), (List.drop ((o.1).toNat) (List.take ((o.2.1).toNat) s)))] <+: toldF s := by exact pre_of3 (told_step za za i3)
  refine L_yield l [(N6 (i + 1)), (S (List.drop ((o.1).toNat) (List.take ((o.2.1).toNat) s)))] zk zk (hY K q ((((i + 1) : Nat) : Int), (List.drop ((o.1).toNat) (List.take ((o.2.1).toNat) s))) _ r a ai u ac) ?_
  rintro e a5 (⟨rfl, ak, hk, ao⟩ | ⟨rfl, am, hk⟩)
  ·refine ⟨true, rfl, ?_⟩
   have b := (b.below c.below).wrote j n
   have b := b.kp hk t
   replace hs := Nat.le_trans hs hk.size
   replace u := Nat.le_trans u hk.size
   replace r := ak
   have a := ao
   refine wW true (nQ (zF (zK (zI (zB (zQ (xL i 1 (zD (zR (zB ⟨_, zo, (i + 1), (q ++ [((((i + 1) : Nat) : Int), (List.drop ((o.1).toNat) (List.take ((o.2.1).toNat) s)))]), rfl, aa, zk, b, a, hs, u, r, zo, ?_⟩))))))))))
   exact told_step za za i3
  refine ⟨false, rfl, ?_⟩
  replace hs := Nat.le_trans hs hk.size
  replace u := Nat.le_trans u hk.size
  refine wW false (nQ (zT (zS (zP (zH (zH (zP (yC [] (hd := aa) ?_))))))))
  exact ⟨hs, Or.inr ⟨K, _, _, ac, am⟩⟩
 intro a8
 refine nW (zF (yH (zL (zL (yB (znrm [] (hd := aa) ?_))))))
 have v : q = toldF s := by exact told_end zo i3
 rw [v] at r
 exact ⟨hs, Or.inl ⟨K, r⟩⟩
theorem c_lines_Each (s : List UInt8) (w : World) :
  Calls Tryz.prog 37 #[(S s)] w (Ret fun v w' => ∃ (cb0 : Nat), v = (.func (.func 66) #[] #[(pt cb0 0)]) ∧ w'.heap[cb0]? = some (.cells [(S s)].toArray 9 (0, 0)) ∧ w.heap.size ≤ cb0 ∧ Below w.heap.size w w') := by
 refine wI 4 func37 rfl ?_
 have d := Below.refl w.heap.size w
 refine wR (zN [(S s)] 9 ?_)
 intro e f a
 have c := a.ge d.size
 have b := a.here
 have d := d.tr a.below
 exact zG (nR (zr (.func (.func 66) #[] #[(pt e 0)]) (zG (nQ (zS (yC [(.func (.func 66) #[] #[(pt e 0)])] ⟨e, rfl, b, c, d⟩))))))
end Go.Proofs.YtddnhlobnembaaaGreatDoor
end

/- === Wlscan === -/
section
/- Walks, written by my program walk.py out of the specification lscan.py: each theorem says what one function returns and that it leaves memory as it was. -/
namespace Go.Proofs.YtddnhlobnembaaaGreatDoor
open Go Go.RowKit Go.FK _root_.Go.Proofs.Tryz
set_option maxHeartbeats 4000000
set_option maxRecDepth 100000
theorem c_lines_Scan (no : Int) (s : List UInt8) (w : World) (hs : s.length ≤ 1073741824) :
  Calls Tryz.prog 39 #[(I6 no), (S s)] w (Ret fun v w' => ∃ (q0 : Value), v = (.tuple #[(Value.agg #[(I6 ((scanF no s).1.1)), (U8 ((scanF no s).1.2.1)), (S ((scanF no s).1.2.2.1)), q0, (S ((scanF no s).1.2.2.2.2))]), (I6 ((scanF no s).2))]) ∧ Row w' w.heap.size 9 1 encStr q0 ((scanF no s).1.2.2.2.1) ∧ Below w.heap.size w w') := by
 refine wI 84 func39 rfl ?_
 have o := Below.refl w.heap.size w
 have cx := cutF_len s
 refine wR (zN [(I6 0), (U8 0), (S []), (.slice none 0 0), (S [])] 90 ?_)
 intro b1 w2 bh
 have aa := bh.ge o.size
 have c := bh.here
 refine zG (nW (wR (zD (zc (c_lines_Check s _ zo) ?_))))
 rintro _ w4 ⟨rfl, bg⟩
 have := chkF_range s
 refine zD (zr (N6 ((chkF s).1)) (zr (I6 ((chkF s).2)) (zG (zG (nR (zD (zNe .i64 ((chkF s).2) 0 ?_ ?_)))))))
 ·intro h7
  replace c := zA c bg
  refine nQ (zT (wR (zr (Value.agg #[(I6 0), (U8 0), (S []), (.slice none 0 0), (S [])]) (zD (wG [(I6 0), (U8 0), (S []), (.slice none 0 0), (S [])] c ?_)))))
  intro w8 bl
  replace c := bl.here
  refine zG (nQ (zS (zH (yV [.cell 4 90, .tmp 5] [(Value.agg #[(I6 0), (U8 0), (S []), (.slice none 0 0), (S [])]), (I6 ((chkF s).2))] rfl rfl ⟨⟨⟨b1, 0, none⟩, zk, yP [(I6 0), (U8 0), (S []), (.slice none 0 0), (S [])] zk zk (yI c)⟩, zk, trivial⟩ ?_))))
  replace o := ((o.tr bh.below).tr bg).trans (bl.below aa)
  exact ⟨(.slice none 0 0), xE (by (rw [scan_bad za]; try rfl; done)) (e6 (by (rw [scan_bad za]; try rfl; done))), (Row.nil _ _ _ _ _).cast (by (rw [scan_bad za]; try rfl; done)), o⟩
 intro c7
 refine nQ (zF (zK (zB (wR (zD (zr (Value.agg #[(I6 no), (U8 0), (S []), (.slice none 0 0), (S [])]) (zN [(I6 0), (U8 0), (S []), (.slice none 0 0), (S [])] 90 ?_)))))))
 intro z dj u
 replace c := zA c bg
 have a := yY (yA c) u
 replace o := (o.tr bh.below).tr bg
 have e := u.ge o.size
 have b := u.here
 refine wG [(I6 no), (U8 0), (S []), (.slice none 0 0), (S [])] b ?_
 intro cf y
 replace b := y.here
 refine nR (zD (zc (c_lines_Cut s _ zo) ?_))
 rintro _ cz ⟨l, rfl, d, j⟩
 replace o := (o.tr u.below).trans (y.below e)
 replace d := d.base o.size
 replace b := zA b j
 refine zD (zr l (zr (S ((cutF s).2)) (zr (pt z 3) (wL z 3 l [(I6 no), (U8 0), (S []), (.slice none 0 0), (S [])] [(I6 no), (U8 0), (S []), l, (S [])] 90 zk zk d.one zk b zi rfl ?_))))
 intro cj h
 replace d := d.wrote h (d.ne b zi)
 replace b := h.here
 refine zr (pt z 4) (z1 4 (S ((cutF s).2)) [(I6 no), (U8 0), (S []), l, (S ((cutF s).2))] b ?_)
 intro cv i
 replace d := d.wrote i (d.ne b zi)
 replace b := i.here
 refine nR (zD (zc (c_strings_Cut s ([35] : List UInt8) _ (by rfl) zo) ?_))
 rintro _ di ⟨rfl, f⟩
 have := qW s ([35] : List UInt8)
 refine zD (zr (S ((Lib.cut s ([35] : List UInt8)).1)) (zr (S ((Lib.cut s ([35] : List UInt8)).2.1)) (zr (.bool ((Lib.cut s ([35] : List UInt8)).2.2)) (yK ((Lib.cut s ([35] : List UInt8)).2.2) ?_ ?_))))
 ·intro ct
  refine zG (zG (zG (nR (zD (zc (vO ((Lib.cut s ([35] : List UInt8)).1) _ zo) ?_)))))
  rintro _ cp ⟨rfl, q⟩
  have := qR ((Lib.cut s ([35] : List UInt8)).1)
  refine zG (nW (zX (wR (zD (zc (wC (trmF ((Lib.cut s ([35] : List UInt8)).1)) ([64] : List UInt8) _ ) ?_)))))
  rintro _ dd ⟨rfl, p⟩
  refine yK (hpB (trmF ((Lib.cut s ([35] : List UInt8)).1)) ([64] : List UInt8)) ?_ ?_
  ·intro bn
   have := hp_len bn; simp only [List.length_cons, List.length_nil] at this
   refine zG (nQ (zT (wR (zD (qD (trmF ((Lib.cut s ([35] : List UInt8)).1)) 1 underlying9 zk ⟨.i64, zk⟩ zo (zc (c_strings_Cut (List.drop 1 (trmF ((Lib.cut s ([35] : List UInt8)).1))) ([58] : List UInt8) _ (by rfl) (by (simp only [List.length_drop, List.length_take] at *; omega))) ?_))))))
   rintro _ cy ⟨rfl, ae⟩
   have := qW (List.drop 1 (trmF ((Lib.cut s ([35] : List UInt8)).1))) ([58] : List UInt8)
   refine zD (zr (S ((Lib.cut (List.drop 1 (trmF ((Lib.cut s ([35] : List UInt8)).1))) ([58] : List UInt8)).1)) (zr (S ((Lib.cut (List.drop 1 (trmF ((Lib.cut s ([35] : List UInt8)).1))) ([58] : List UInt8)).2.1)) (zr (.bool ((Lib.cut (List.drop 1 (trmF ((Lib.cut s ([35] : List UInt8)).1))) ([58] : List UInt8)).2.2)) (yK ((Lib.cut (List.drop 1 (trmF ((Lib.cut s ([35] : List UInt8)).1))) ([58] : List UInt8)).2.2) ?_ ?_))))
   ·intro cg
    refine zG (zG (zG (nW (wR (zD (wW true (zD (zw (zD (zw (zc (c_lines_named ((Lib.cut (List.drop 1 (trmF ((Lib.cut s ([35] : List UInt8)).1))) ([58] : List UInt8)).1) _ (by (simp only [List.length_drop, List.length_take] at *; omega))) ?_)))))))))))
    rintro _ co ⟨rfl, aq⟩
    refine yK (nameF ((Lib.cut (List.drop 1 (trmF ((Lib.cut s ([35] : List UInt8)).1))) ([58] : List UInt8)).1)) ?_ ?_
    ·intro c8
     refine zw (wW true (xF (nQ (zF (zK (zB (zQ (zD (zD (zc (c_lines_fields ((Lib.cut (List.drop 1 (trmF ((Lib.cut s ([35] : List UInt8)).1))) ([58] : List UInt8)).2.1) _ (by (simp only [List.length_drop, List.length_take] at *; omega))) ?_))))))))))
     rintro a0 cq ⟨_, rfl, m, a8⟩
     replace o := (((((((o.tr j).trans (h.below e)).trans (i.below e)).tr f).tr q).tr p).tr ae).tr aq
     replace m := m.base o.size
     replace b := zA (zA (zA (zA (zA (zA b f) q) p) ae) aq) a8
     refine zr (pt z 1) (z1 1 (U8 2) [(I6 no), (U8 2), (S []), l, (S ((cutF s).2))] b ?_)
     intro ch a4
     replace m := m.wrote a4 (m.ne b zi)
     replace b := a4.here
     refine zr (pt z 2) (z1 2 (S ((Lib.cut (List.drop 1 (trmF ((Lib.cut s ([35] : List UInt8)).1))) ([58] : List UInt8)).1)) [(I6 no), (U8 2), (S ((Lib.cut (List.drop 1 (trmF ((Lib.cut s ([35] : List UInt8)).1))) ([58] : List UInt8)).1)), l, (S ((cutF s).2))] b ?_)
     intro cs a5
     replace m := m.wrote a5 (m.ne b zi)
     replace b := a5.here
     refine zr (pt z 3) (wL z 3 a0 [(I6 no), (U8 2), (S ((Lib.cut (List.drop 1 (trmF ((Lib.cut s ([35] : List UInt8)).1))) ([58] : List UInt8)).1)), l, (S ((cutF s).2))] [(I6 no), (U8 2), (S ((Lib.cut (List.drop 1 (trmF ((Lib.cut s ([35] : List UInt8)).1))) ([58] : List UInt8)).1)), a0, (S ((cutF s).2))] 90 zk zk m.one zk b zi rfl ?_)
     intro c9 a3
     replace m := m.wrote a3 (m.ne b zi)
     replace b := a3.here
     replace c := zC (zC (zC (zA (zA (zA (zA (zA (zA (zC (zC (zA (zC (zA c u.below) y a) j) h a) i a) f) q) p) ae) aq) a8) a4 a) a5 a) a3 a
     refine zR (zI (zB (wR (zOW b (xP b1 0 [(I6 no), (U8 2), (S ((Lib.cut (List.drop 1 (trmF ((Lib.cut s ([35] : List UInt8)).1))) ([58] : List UInt8)).1)), a0, (S ((cutF s).2))] [(I6 0), (U8 0), (S []), (.slice none 0 0), (S [])] [(I6 no), (U8 2), (S ((Lib.cut (List.drop 1 (trmF ((Lib.cut s ([35] : List UInt8)).1))) ([58] : List UInt8)).1)), a0, (S ((cutF s).2))] 90 zk zk (xC rfl (xC rfl (xC rfl (xC m.one (xC rfl rfl))))) zk c zk rfl ?_)))))
     intro cr bb
     replace m := m.wrote bb (m.ne c zi)
     replace c := bb.here
     refine zG (nQ (zS (yV [.cell 4 90, .tmp 5] [(Value.agg #[(I6 no), (U8 2), (S ((Lib.cut (List.drop 1 (trmF ((Lib.cut s ([35] : List UInt8)).1))) ([58] : List UInt8)).1)), a0, (S ((cutF s).2))]), (I6 0)] rfl rfl ⟨⟨⟨b1, 0, none⟩, zk, yP [(I6 no), (U8 2), (S ((Lib.cut (List.drop 1 (trmF ((Lib.cut s ([35] : List UInt8)).1))) ([58] : List UInt8)).1)), a0, (S ((cutF s).2))] zk zk (yI c)⟩, zk, trivial⟩ ?_)))
     replace o := ((((o.tr a8).trans (a4.below e)).trans (a5.below e)).trans (a3.below e)).trans (bb.below aa)
     exact ⟨a0, xE (by (rw [vX za za za za]; try rfl; done)) (e6 (by (rw [vX za za za za]; try rfl; done))), m.cast (by (rw [vX za za za za]; try rfl; done)), o⟩
    intro ci
    replace c := zA (zA (zA (zA (zA (zC (zC (zA (zC (zA c u.below) y a) j) h a) i a) f) q) p) ae) aq
    refine zw (wW false (xF (nQ (zT (wR (zr (Value.agg #[(I6 0), (U8 0), (S []), (.slice none 0 0), (S [])]) (wG [(I6 0), (U8 0), (S []), (.slice none 0 0), (S [])] c ?_)))))))
    intro c1 bi
    replace c := bi.here
    refine zG (nQ (zS (zH (zP (zH (yV [.cell 4 90, .tmp 5] [(Value.agg #[(I6 0), (U8 0), (S []), (.slice none 0 0), (S [])]), (I6 33)] rfl rfl ⟨⟨⟨b1, 0, none⟩, zk, yP [(I6 0), (U8 0), (S []), (.slice none 0 0), (S [])] zk zk (yI c)⟩, zk, trivial⟩ ?_))))))
    replace o := ((((((((o.tr j).trans (h.below e)).trans (i.below e)).tr f).tr q).tr p).tr ae).tr aq).trans (bi.below aa)
    exact ⟨(.slice none 0 0), xE (by (rw [xU za za (.inr za)]; try rfl; done)) (e6 (by (rw [xU za za (.inr za)]; try rfl; done))), (Row.nil _ _ _ _ _).cast (by (rw [xU za za (.inr za)]; try rfl; done)), o⟩
   intro c2
   replace c := zA (zA (zA (zA (zC (zC (zA (zC (zA c u.below) y a) j) h a) i a) f) q) p) ae
   refine zG (zG (zG (nW (wR (zD (wW false (zD (zs (zs (zs (xG (nQ (zT (wR (zr (Value.agg #[(I6 0), (U8 0), (S []), (.slice none 0 0), (S [])]) (wG [(I6 0), (U8 0), (S []), (.slice none 0 0), (S [])] c ?_))))))))))))))))
   intro c5 bj
   replace c := bj.here
   refine zG (nQ (zS (zH (zP (zH (yV [.cell 4 90, .tmp 5] [(Value.agg #[(I6 0), (U8 0), (S []), (.slice none 0 0), (S [])]), (I6 33)] rfl rfl ⟨⟨⟨b1, 0, none⟩, zk, yP [(I6 0), (U8 0), (S []), (.slice none 0 0), (S [])] zk zk (yI c)⟩, zk, trivial⟩ ?_))))))
   replace o := (((((((o.tr j).trans (h.below e)).trans (i.below e)).tr f).tr q).tr p).tr ae).trans (bj.below aa)
   exact ⟨(.slice none 0 0), xE (by (rw [xU za za (.inl za)]; try rfl; done)) (e6 (by (rw [xU za za (.inl za)]; try rfl; done))), (Row.nil _ _ _ _ _).cast (by (rw [xU za za (.inl za)]; try rfl; done)), o⟩
  intro cm
  refine zG (nQ (zF (wR (zD (L_sne (trmF ((Lib.cut s ([35] : List UInt8)).1)) ([] : List UInt8) rfl zk zk ?_ ?_)))))
  ·intro cn
   replace b := zA (zA (zA b f) q) p
   refine zG (nQ (zT (zQ (zr (pt z 1) (z1 1 (U8 1) [(I6 no), (U8 1), (S []), l, (S ((cutF s).2))] b ?_)))))
   intro ce a6
   replace d := ((d.below f).below q).below p
   replace d := d.wrote a6 (d.ne b zi)
   replace b := a6.here
   replace c := zC (zA (zA (zA (zC (zC (zA (zC (zA c u.below) y a) j) h a) i a) f) q) p) a6 a
   refine zR (zI (zB (wR (zOW b (xP b1 0 [(I6 no), (U8 1), (S []), l, (S ((cutF s).2))] [(I6 0), (U8 0), (S []), (.slice none 0 0), (S [])] [(I6 no), (U8 1), (S []), l, (S ((cutF s).2))] 90 zk zk (xC rfl (xC rfl (xC rfl (xC d.one (xC rfl rfl))))) zk c zk rfl ?_)))))
   intro c0 bf
   replace d := d.wrote bf (d.ne c zi)
   replace c := bf.here
   refine zG (nQ (zS (yV [.cell 4 90, .tmp 5] [(Value.agg #[(I6 no), (U8 1), (S []), l, (S ((cutF s).2))]), (I6 0)] rfl rfl ⟨⟨⟨b1, 0, none⟩, zk, yP [(I6 no), (U8 1), (S []), l, (S ((cutF s).2))] zk zk (yI c)⟩, zk, trivial⟩ ?_)))
   replace o := (((((((o.tr j).trans (h.below e)).trans (i.below e)).tr f).tr q).tr p).trans (a6.below e)).trans (bf.below aa)
   exact ⟨l, xE (by (rw [scan_data za za za]; try rfl; done)) (e6 (by (rw [scan_data za za za]; try rfl; done))), d.cast (by (rw [scan_data za za za]; try rfl; done)), o⟩
  intro c6
  replace b := zA (zA (zA b f) q) p
  refine zG (nQ (zF (wR (uF 4 b rfl (zc (wC ((cutF s).2) ([64, 109, 105, 115, 115, 105, 110, 103, 58] : List UInt8) _ ) ?_)))))
  rintro _ cu ⟨rfl, ah⟩
  refine yK (hpB ((cutF s).2) ([64, 109, 105, 115, 115, 105, 110, 103, 58] : List UInt8)) ?_ ?_
  ·intro bo
   have := hp_len bo; simp only [List.length_cons, List.length_nil] at this
   replace b := zA b ah
   refine zG (nQ (zT (wR (zr (pt z 1) (z1 1 (U8 3) [(I6 no), (U8 3), (S []), l, (S ((cutF s).2))] b ?_)))))
   intro c3 bc
   replace b := bc.here
   refine nQ (zQ (uF 4 b rfl (qD ((cutF s).2) 9 underlying9 zk ⟨.i64, zk⟩ zo (zc (c_lines_Cut (List.drop 9 ((cutF s).2)) _ (by (simp only [List.length_drop, List.length_take] at *; omega))) ?_))))
   rintro _ ck ⟨an, rfl, n, be⟩
   replace o := (((((((o.tr j).trans (h.below e)).trans (i.below e)).tr f).tr q).tr p).tr ah).trans (bc.below e)
   replace n := n.base o.size
   replace b := zA b be
   refine zD (zr an (zr (S ((cutF (List.drop 9 ((cutF s).2))).2)) (zr (pt z 3) (wL z 3 an [(I6 no), (U8 3), (S []), l, (S ((cutF s).2))] [(I6 no), (U8 3), (S []), an, (S ((cutF s).2))] 90 zk zk n.one zk b zi rfl ?_))))
   intro df a2
   replace n := n.wrote a2 (n.ne b zi)
   replace b := a2.here
   refine zr (pt z 4) (z1 4 (S ((cutF (List.drop 9 ((cutF s).2))).2)) [(I6 no), (U8 3), (S []), an, (S ((cutF (List.drop 9 ((cutF s).2))).2))] b ?_)
   intro db a1
   replace n := n.wrote a1 (n.ne b zi)
   replace b := a1.here
   replace c := zC (zC (zA (zC (zA (zA (zA (zA (zC (zC (zA (zC (zA c u.below) y a) j) h a) i a) f) q) p) ah) bc a) be) a2 a) a1 a
   refine zR (zI (zB (wR (zOW b (xP b1 0 [(I6 no), (U8 3), (S []), an, (S ((cutF (List.drop 9 ((cutF s).2))).2))] [(I6 0), (U8 0), (S []), (.slice none 0 0), (S [])] [(I6 no), (U8 3), (S []), an, (S ((cutF (List.drop 9 ((cutF s).2))).2))] 90 zk zk (xC rfl (xC rfl (xC rfl (xC n.one (xC rfl rfl))))) zk c zk rfl ?_)))))
   intro dk a9
   replace n := n.wrote a9 (n.ne c zi)
   replace c := a9.here
   refine zG (nQ (zS (yV [.cell 4 90, .tmp 5] [(Value.agg #[(I6 no), (U8 3), (S []), an, (S ((cutF (List.drop 9 ((cutF s).2))).2))]), (I6 0)] rfl rfl ⟨⟨⟨b1, 0, none⟩, zk, yP [(I6 no), (U8 3), (S []), an, (S ((cutF (List.drop 9 ((cutF s).2))).2))] zk zk (yI c)⟩, zk, trivial⟩ ?_)))
   replace o := (((o.tr be).trans (a2.below e)).trans (a1.below e)).trans (a9.below aa)
   exact ⟨an, xE (by (rw [vM za za za]; try rfl; done)) (e6 (by (rw [vM za za za]; try rfl; done))), n.cast (by (rw [vM za za za]; try rfl; done)), o⟩
  intro dh
  replace c := zA (zA (zA (zA (zC (zC (zA (zC (zA c u.below) y a) j) h a) i a) f) q) p) ah
  replace b := zA b ah
  replace d := (((d.below f).below q).below p).below ah
  refine zG (nQ (zF (zK (zI (zB (wR (zOW b (xP b1 0 [(I6 no), (U8 0), (S []), l, (S ((cutF s).2))] [(I6 0), (U8 0), (S []), (.slice none 0 0), (S [])] [(I6 no), (U8 0), (S []), l, (S ((cutF s).2))] 90 zk zk (xC rfl (xC rfl (xC rfl (xC d.one (xC rfl rfl))))) zk c zk rfl ?_))))))))
  intro cw bd
  replace d := d.wrote bd (d.ne c zi)
  replace c := bd.here
  refine zG (nQ (zS (yV [.cell 4 90, .tmp 5] [(Value.agg #[(I6 no), (U8 0), (S []), l, (S ((cutF s).2))]), (I6 0)] rfl rfl ⟨⟨⟨b1, 0, none⟩, zk, yP [(I6 no), (U8 0), (S []), l, (S ((cutF s).2))] zk zk (yI c)⟩, zk, trivial⟩ ?_)))
  replace o := (((((((o.tr j).trans (h.below e)).trans (i.below e)).tr f).tr q).tr p).tr ah).trans (bd.below aa)
  exact ⟨l, xE (by (rw [vY za za za]; try rfl; done)) (e6 (by (rw [vY za za za]; try rfl; done))), d.cast (by (rw [vY za za za]; try rfl; done)), o⟩
 intro c4
 refine zG (zG (zG (nR (zD (zc (vO ((Lib.cut s ([35] : List UInt8)).1) _ zo) ?_)))))
 rintro _ dc ⟨rfl, t⟩
 have := qR ((Lib.cut s ([35] : List UInt8)).1)
 refine zG (nW (zX (wR (zD (zc (wC (trmF ((Lib.cut s ([35] : List UInt8)).1)) ([64] : List UInt8) _ ) ?_)))))
 rintro _ de ⟨rfl, r⟩
 refine yK (hpB (trmF ((Lib.cut s ([35] : List UInt8)).1)) ([64] : List UInt8)) ?_ ?_
 ·intro bm
  have := hp_len bm; simp only [List.length_cons, List.length_nil] at this
  refine zG (nQ (zT (wR (zD (qD (trmF ((Lib.cut s ([35] : List UInt8)).1)) 1 underlying9 zk ⟨.i64, zk⟩ zo (zc (c_strings_Cut (List.drop 1 (trmF ((Lib.cut s ([35] : List UInt8)).1))) ([58] : List UInt8) _ (by rfl) (by (simp only [List.length_drop, List.length_take] at *; omega))) ?_))))))
  rintro _ dg ⟨rfl, ag⟩
  have := qW (List.drop 1 (trmF ((Lib.cut s ([35] : List UInt8)).1))) ([58] : List UInt8)
  refine zD (zr (S ((Lib.cut (List.drop 1 (trmF ((Lib.cut s ([35] : List UInt8)).1))) ([58] : List UInt8)).1)) (zr (S ((Lib.cut (List.drop 1 (trmF ((Lib.cut s ([35] : List UInt8)).1))) ([58] : List UInt8)).2.1)) (zr (.bool ((Lib.cut (List.drop 1 (trmF ((Lib.cut s ([35] : List UInt8)).1))) ([58] : List UInt8)).2.2)) (yK ((Lib.cut (List.drop 1 (trmF ((Lib.cut s ([35] : List UInt8)).1))) ([58] : List UInt8)).2.2) ?_ ?_))))
  ·intro da
   refine zG (zG (zG (nW (wR (zD (wW true (zD (zw (zD (zw (zc (c_lines_named ((Lib.cut (List.drop 1 (trmF ((Lib.cut s ([35] : List UInt8)).1))) ([58] : List UInt8)).1) _ (by (simp only [List.length_drop, List.length_take] at *; omega))) ?_)))))))))))
   rintro _ cl ⟨rfl, ad⟩
   refine yK (nameF ((Lib.cut (List.drop 1 (trmF ((Lib.cut s ([35] : List UInt8)).1))) ([58] : List UInt8)).1)) ?_ ?_
   ·intro b3
    refine zw (wW true (xF (nQ (zF (zK (zB (zQ (zD (zD (zc (c_lines_fields ((Lib.cut (List.drop 1 (trmF ((Lib.cut s ([35] : List UInt8)).1))) ([58] : List UInt8)).2.1) _ (by (simp only [List.length_drop, List.length_take] at *; omega))) ?_))))))))))
    rintro af b9 ⟨_, rfl, g, av⟩
    replace o := (((((((o.tr j).trans (h.below e)).trans (i.below e)).tr f).tr t).tr r).tr ag).tr ad
    replace g := g.base o.size
    replace b := zA (zA (zA (zA (zA (zA b f) t) r) ag) ad) av
    refine zr (pt z 1) (z1 1 (U8 2) [(I6 no), (U8 2), (S []), l, (S ((cutF s).2))] b ?_)
    intro bs ak
    replace g := g.wrote ak (g.ne b zi)
    replace b := ak.here
    refine zr (pt z 2) (z1 2 (S ((Lib.cut (List.drop 1 (trmF ((Lib.cut s ([35] : List UInt8)).1))) ([58] : List UInt8)).1)) [(I6 no), (U8 2), (S ((Lib.cut (List.drop 1 (trmF ((Lib.cut s ([35] : List UInt8)).1))) ([58] : List UInt8)).1)), l, (S ((cutF s).2))] b ?_)
    intro cb al
    replace g := g.wrote al (g.ne b zi)
    replace b := al.here
    refine zr (pt z 3) (wL z 3 af [(I6 no), (U8 2), (S ((Lib.cut (List.drop 1 (trmF ((Lib.cut s ([35] : List UInt8)).1))) ([58] : List UInt8)).1)), l, (S ((cutF s).2))] [(I6 no), (U8 2), (S ((Lib.cut (List.drop 1 (trmF ((Lib.cut s ([35] : List UInt8)).1))) ([58] : List UInt8)).1)), af, (S ((cutF s).2))] 90 zk zk g.one zk b zi rfl ?_)
    intro ca ao
    replace g := g.wrote ao (g.ne b zi)
    replace b := ao.here
    replace c := zC (zC (zC (zA (zA (zA (zA (zA (zA (zC (zC (zA (zC (zA c u.below) y a) j) h a) i a) f) t) r) ag) ad) av) ak a) al a) ao a
    refine zR (zI (zB (wR (zOW b (xP b1 0 [(I6 no), (U8 2), (S ((Lib.cut (List.drop 1 (trmF ((Lib.cut s ([35] : List UInt8)).1))) ([58] : List UInt8)).1)), af, (S ((cutF s).2))] [(I6 0), (U8 0), (S []), (.slice none 0 0), (S [])] [(I6 no), (U8 2), (S ((Lib.cut (List.drop 1 (trmF ((Lib.cut s ([35] : List UInt8)).1))) ([58] : List UInt8)).1)), af, (S ((cutF s).2))] 90 zk zk (xC rfl (xC rfl (xC rfl (xC g.one (xC rfl rfl))))) zk c zk rfl ?_)))))
    intro b7 ay
    replace g := g.wrote ay (g.ne c zi)
    replace c := ay.here
    refine zG (nQ (zS (yV [.cell 4 90, .tmp 5] [(Value.agg #[(I6 no), (U8 2), (S ((Lib.cut (List.drop 1 (trmF ((Lib.cut s ([35] : List UInt8)).1))) ([58] : List UInt8)).1)), af, (S ((cutF s).2))]), (I6 0)] rfl rfl ⟨⟨⟨b1, 0, none⟩, zk, yP [(I6 no), (U8 2), (S ((Lib.cut (List.drop 1 (trmF ((Lib.cut s ([35] : List UInt8)).1))) ([58] : List UInt8)).1)), af, (S ((cutF s).2))] zk zk (yI c)⟩, zk, trivial⟩ ?_)))
    replace o := ((((o.tr av).trans (ak.below e)).trans (al.below e)).trans (ao.below e)).trans (ay.below aa)
    exact ⟨af, xE (by (rw [vX za za za za]; try rfl; done)) (e6 (by (rw [vX za za za za]; try rfl; done))), g.cast (by (rw [vX za za za za]; try rfl; done)), o⟩
   intro b5
   replace c := zA (zA (zA (zA (zA (zC (zC (zA (zC (zA c u.below) y a) j) h a) i a) f) t) r) ag) ad
   refine zw (wW false (xF (nQ (zT (wR (zr (Value.agg #[(I6 0), (U8 0), (S []), (.slice none 0 0), (S [])]) (wG [(I6 0), (U8 0), (S []), (.slice none 0 0), (S [])] c ?_)))))))
   intro b4 a7
   replace c := a7.here
   refine zG (nQ (zS (zH (zP (zH (yV [.cell 4 90, .tmp 5] [(Value.agg #[(I6 0), (U8 0), (S []), (.slice none 0 0), (S [])]), (I6 33)] rfl rfl ⟨⟨⟨b1, 0, none⟩, zk, yP [(I6 0), (U8 0), (S []), (.slice none 0 0), (S [])] zk zk (yI c)⟩, zk, trivial⟩ ?_))))))
   replace o := ((((((((o.tr j).trans (h.below e)).trans (i.below e)).tr f).tr t).tr r).tr ag).tr ad).trans (a7.below aa)
   exact ⟨(.slice none 0 0), xE (by (rw [xU za za (.inr za)]; try rfl; done)) (e6 (by (rw [xU za za (.inr za)]; try rfl; done))), (Row.nil _ _ _ _ _).cast (by (rw [xU za za (.inr za)]; try rfl; done)), o⟩
  intro cc
  replace c := zA (zA (zA (zA (zC (zC (zA (zC (zA c u.below) y a) j) h a) i a) f) t) r) ag
  refine zG (zG (zG (nW (wR (zD (wW false (zD (zs (zs (zs (xG (nQ (zT (wR (zr (Value.agg #[(I6 0), (U8 0), (S []), (.slice none 0 0), (S [])]) (wG [(I6 0), (U8 0), (S []), (.slice none 0 0), (S [])] c ?_))))))))))))))))
  intro bq ba
  replace c := ba.here
  refine zG (nQ (zS (zH (zP (zH (yV [.cell 4 90, .tmp 5] [(Value.agg #[(I6 0), (U8 0), (S []), (.slice none 0 0), (S [])]), (I6 33)] rfl rfl ⟨⟨⟨b1, 0, none⟩, zk, yP [(I6 0), (U8 0), (S []), (.slice none 0 0), (S [])] zk zk (yI c)⟩, zk, trivial⟩ ?_))))))
  replace o := (((((((o.tr j).trans (h.below e)).trans (i.below e)).tr f).tr t).tr r).tr ag).trans (ba.below aa)
  exact ⟨(.slice none 0 0), xE (by (rw [xU za za (.inl za)]; try rfl; done)) (e6 (by (rw [xU za za (.inl za)]; try rfl; done))), (Row.nil _ _ _ _ _).cast (by (rw [xU za za (.inl za)]; try rfl; done)), o⟩
 intro cd
 refine zG (nQ (zF (wR (zD (L_sne (trmF ((Lib.cut s ([35] : List UInt8)).1)) ([] : List UInt8) rfl zk zk ?_ ?_)))))
 ·intro bw
  replace b := zA (zA (zA b f) t) r
  refine zG (nQ (zT (zQ (zr (pt z 1) (z1 1 (U8 1) [(I6 no), (U8 1), (S []), l, (S ((cutF s).2))] b ?_)))))
  intro b2 aj
  replace d := ((d.below f).below t).below r
  replace d := d.wrote aj (d.ne b zi)
  replace b := aj.here
  replace c := zC (zA (zA (zA (zC (zC (zA (zC (zA c u.below) y a) j) h a) i a) f) t) r) aj a
  refine zR (zI (zB (wR (zOW b (xP b1 0 [(I6 no), (U8 1), (S []), l, (S ((cutF s).2))] [(I6 0), (U8 0), (S []), (.slice none 0 0), (S [])] [(I6 no), (U8 1), (S []), l, (S ((cutF s).2))] 90 zk zk (xC rfl (xC rfl (xC rfl (xC d.one (xC rfl rfl))))) zk c zk rfl ?_)))))
  intro br au
  replace d := d.wrote au (d.ne c zi)
  replace c := au.here
  refine zG (nQ (zS (yV [.cell 4 90, .tmp 5] [(Value.agg #[(I6 no), (U8 1), (S []), l, (S ((cutF s).2))]), (I6 0)] rfl rfl ⟨⟨⟨b1, 0, none⟩, zk, yP [(I6 no), (U8 1), (S []), l, (S ((cutF s).2))] zk zk (yI c)⟩, zk, trivial⟩ ?_)))
  replace o := (((((((o.tr j).trans (h.below e)).trans (i.below e)).tr f).tr t).tr r).trans (aj.below e)).trans (au.below aa)
  exact ⟨l, xE (by (rw [scan_data za za za]; try rfl; done)) (e6 (by (rw [scan_data za za za]; try rfl; done))), d.cast (by (rw [scan_data za za za]; try rfl; done)), o⟩
 intro bx
 replace b := zA (zA (zA b f) t) r
 refine zG (nQ (zF (wR (uF 4 b rfl (zc (wC ((cutF s).2) ([64, 109, 105, 115, 115, 105, 110, 103, 58] : List UInt8) _ ) ?_)))))
 rintro _ bp ⟨rfl, ab⟩
 refine yK (hpB ((cutF s).2) ([64, 109, 105, 115, 115, 105, 110, 103, 58] : List UInt8)) ?_ ?_
 ·intro bk
  have := hp_len bk; simp only [List.length_cons, List.length_nil] at this
  replace b := zA b ab
  refine zG (nQ (zT (wR (zr (pt z 1) (z1 1 (U8 3) [(I6 no), (U8 3), (S []), l, (S ((cutF s).2))] b ?_)))))
  intro b6 ar
  replace b := ar.here
  refine nQ (zQ (uF 4 b rfl (qD ((cutF s).2) 9 underlying9 zk ⟨.i64, zk⟩ zo (zc (c_lines_Cut (List.drop 9 ((cutF s).2)) _ (by (simp only [List.length_drop, List.length_take] at *; omega))) ?_))))
  rintro _ bz ⟨ac, rfl, k, aw⟩
  replace o := (((((((o.tr j).trans (h.below e)).trans (i.below e)).tr f).tr t).tr r).tr ab).trans (ar.below e)
  replace k := k.base o.size
  replace b := zA b aw
  refine zD (zr ac (zr (S ((cutF (List.drop 9 ((cutF s).2))).2)) (zr (pt z 3) (wL z 3 ac [(I6 no), (U8 3), (S []), l, (S ((cutF s).2))] [(I6 no), (U8 3), (S []), ac, (S ((cutF s).2))] 90 zk zk k.one zk b zi rfl ?_))))
  intro bv am
  replace k := k.wrote am (k.ne b zi)
  replace b := am.here
  refine zr (pt z 4) (z1 4 (S ((cutF (List.drop 9 ((cutF s).2))).2)) [(I6 no), (U8 3), (S []), ac, (S ((cutF (List.drop 9 ((cutF s).2))).2))] b ?_)
  intro bt ap
  replace k := k.wrote ap (k.ne b zi)
  replace b := ap.here
  replace c := zC (zC (zA (zC (zA (zA (zA (zA (zC (zC (zA (zC (zA c u.below) y a) j) h a) i a) f) t) r) ab) ar a) aw) am a) ap a
  refine zR (zI (zB (wR (zOW b (xP b1 0 [(I6 no), (U8 3), (S []), ac, (S ((cutF (List.drop 9 ((cutF s).2))).2))] [(I6 0), (U8 0), (S []), (.slice none 0 0), (S [])] [(I6 no), (U8 3), (S []), ac, (S ((cutF (List.drop 9 ((cutF s).2))).2))] 90 zk zk (xC rfl (xC rfl (xC rfl (xC k.one (xC rfl rfl))))) zk c zk rfl ?_)))))
  intro bu ax
  replace k := k.wrote ax (k.ne c zi)
  replace c := ax.here
  refine zG (nQ (zS (yV [.cell 4 90, .tmp 5] [(Value.agg #[(I6 no), (U8 3), (S []), ac, (S ((cutF (List.drop 9 ((cutF s).2))).2))]), (I6 0)] rfl rfl ⟨⟨⟨b1, 0, none⟩, zk, yP [(I6 no), (U8 3), (S []), ac, (S ((cutF (List.drop 9 ((cutF s).2))).2))] zk zk (yI c)⟩, zk, trivial⟩ ?_)))
  replace o := (((o.tr aw).trans (am.below e)).trans (ap.below e)).trans (ax.below aa)
  exact ⟨ac, xE (by (rw [vM za za za]; try rfl; done)) (e6 (by (rw [vM za za za]; try rfl; done))), k.cast (by (rw [vM za za za]; try rfl; done)), o⟩
 intro b0
 replace c := zA (zA (zA (zA (zC (zC (zA (zC (zA c u.below) y a) j) h a) i a) f) t) r) ab
 replace b := zA b ab
 replace d := (((d.below f).below t).below r).below ab
 refine zG (nQ (zF (zK (zI (zB (wR (zOW b (xP b1 0 [(I6 no), (U8 0), (S []), l, (S ((cutF s).2))] [(I6 0), (U8 0), (S []), (.slice none 0 0), (S [])] [(I6 no), (U8 0), (S []), l, (S ((cutF s).2))] 90 zk zk (xC rfl (xC rfl (xC rfl (xC d.one (xC rfl rfl))))) zk c zk rfl ?_))))))))
 intro b8 az
 replace d := d.wrote az (d.ne c zi)
 replace c := az.here
 refine zG (nQ (zS (yV [.cell 4 90, .tmp 5] [(Value.agg #[(I6 no), (U8 0), (S []), l, (S ((cutF s).2))]), (I6 0)] rfl rfl ⟨⟨⟨b1, 0, none⟩, zk, yP [(I6 no), (U8 0), (S []), l, (S ((cutF s).2))] zk zk (yI c)⟩, zk, trivial⟩ ?_)))
 replace o := (((((((o.tr j).trans (h.below e)).trans (i.below e)).tr f).tr t).tr r).tr ab).trans (az.below aa)
 exact ⟨l, xE (by (rw [vY za za za]; try rfl; done)) (e6 (by (rw [vY za za za]; try rfl; done))), d.cast (by (rw [vY za za za]; try rfl; done)), o⟩
end Go.Proofs.YtddnhlobnembaaaGreatDoor
end

/- === Wlread === -/
section
/- Walks, written by my program walk.py out of the specification lread.py: each theorem says what one function returns and that it leaves memory as it was. -/
namespace Go.Proofs.YtddnhlobnembaaaGreatDoor
open Go Go.RowKit Go.FK
end Go.Proofs.YtddnhlobnembaaaGreatDoor
end
