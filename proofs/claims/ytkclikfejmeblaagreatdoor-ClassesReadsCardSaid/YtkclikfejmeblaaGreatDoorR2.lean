/- Joined by my program pack2.py out of my own texts: PLfld PLpcs PLref PLlaw PLplc PLeach PLrds FKq FKv FKu FKo PHexM PHex PGE PFold PGF PWordM PLapart FKai PCls FKl FKi FKab FKak PCl2 POne PCl3 PCl4 PCl5 PCl6 PCl7 PRf7 PSt7 PRd7 FKaq FKar. -/
import Derived.Lib.Join
import Derived.Scope
import Derived.Shelf.Strings.SlTrimAscii
import Derived.OrdersIn
import Derived.MapKept
import Derived.Carry
import Derived.RangeFuncBound
import Derived.Shelf.Strings.BuilderK
import Derived.Lib.OthersKept
import Derived.Lib.FrozenHead2
import Derived.Lib.Builder
import Derived.Lib.AppendStr
import Derived.Test.YtkclikfejmeblaaGreatDoorR1
set_option linter.unusedVariables false
set_option linter.unusedSimpArgs false
/- === PLfld === -/
section
/- Plain functions of chapter 3: blanks cut off, fields, heads and notes. -/
namespace Go.FK
open Go Go.RowKit
def isBl (c : UInt8) : Bool := [32, 9].contains c
def dropB (l : List UInt8) : List UInt8 := l.dropWhile isBl
def dropE (l : List UInt8) : List UInt8 := (l.reverse.dropWhile isBl).reverse
def trmF (l : List UInt8) : List UInt8 := dropB (dropE l)
theorem isBl_iff (c : UInt8) : isBl c = true ↔ (c.toNat = 32 ∨ c.toNat = 9) := by
 have b : c = 32 ↔ c.toNat = 32 := by rw [← UInt8.toNat_inj]; rfl
 have a : c = 9 ↔ c.toNat = 9 := by rw [← UInt8.toNat_inj]; rfl
 simp [isBl, b, a]
theorem dropWhile_snoc {α : Type} (p : α → Bool) (x : α) : ∀ l : List α, (l ++ [x]).dropWhile p = if l.dropWhile p = [] then (if p x = true then [] else [x]) else l.dropWhile p ++ [x]
 | [] => by simp [List.dropWhile]; split <;> simp_all
 | y :: l => by
  rw [List.cons_append, List.dropWhile_cons, List.dropWhile_cons]
  by_cases h : p y = true
  ·rw [if_pos h, if_pos h, dropWhile_snoc p x l]
  ·rw [if_neg h, if_neg h]; simp
theorem dropE_cons (c : UInt8) (l : List UInt8) : dropE (c :: l) = if dropE l = [] then (if isBl c = true then [] else [c]) else c :: dropE l := by
 unfold dropE
 rw [List.reverse_cons, dropWhile_snoc]
 by_cases h : l.reverse.dropWhile isBl = []
 ·rw [if_pos h, h]
  by_cases hc : isBl c = true <;> simp [hc]
 ·rw [if_neg h, if_neg (by simpa using h)]; simp
theorem dropE_snoc (c : UInt8) (l : List UInt8) (h : isBl c = true) : dropE (l ++ [c]) = dropE l := by
 unfold dropE
 rw [List.reverse_append]
 simp [h]
theorem trm_cons {c : UInt8} (l : List UInt8) (h : isBl c = true) : trmF (c :: l) = trmF l := by
 unfold trmF
 rw [dropE_cons]
 by_cases hl : dropE l = []
 ·rw [if_pos hl, if_pos h, hl]
 ·rw [if_neg hl]; unfold dropB; rw [List.dropWhile_cons, if_pos h]
theorem trm_snoc {c : UInt8} (l : List UInt8) (h : isBl c = true) : trmF (l ++ [c]) = trmF l := by unfold trmF; rw [dropE_snoc c l h]
theorem trm_left {s : List UInt8} {c : UInt8} (hc : s[0]? = some c) (h : c.toNat = 32 ∨ c.toNat = 9) : trmF (s.drop 1) = trmF s := by
  cases s with
  | nil => simp at hc
  | cons x l => obtain rfl : x = c := by simpa using hc
                exact (trm_cons l ((isBl_iff x).2 h)).symm
theorem last_snoc {s : List UInt8} {c : UInt8} (hc : s[s.length - 1]? = some c) : s = s.take (s.length - 1) ++ [c] := by
 have hlt : s.length - 1 < s.length := (List.getElem?_eq_some_iff.1 hc).1
 have := List.take_succ_eq_append_getElem hlt
 rw [show s.length - 1 + 1 = s.length by omega, List.take_length] at this
 rw [this, (List.getElem?_eq_some_iff.1 hc).2]
 simp
theorem trm_right {s : List UInt8} {c : UInt8} (hc : s[s.length - 1]? = some c) (h : c.toNat = 32 ∨ c.toNat = 9) : trmF (s.take (s.length - 1)) = trmF s := by
 conv => rhs; rw [last_snoc hc]
 exact (trm_snoc _ ((isBl_iff c).2 h)).symm
theorem dropE_keep {s : List UInt8} {c : UInt8} (hc : s[s.length - 1]? = some c) (h : isBl c = false) : dropE s = s := by
 unfold dropE
 conv => lhs; rw [last_snoc hc]
 rw [List.reverse_append]
 simp [h]
 exact (last_snoc hc).symm
theorem trm_done {s : List UInt8} (h : s = [] ∨ ∃ c d, s[0]? = some c ∧ ¬ (c.toNat = 32 ∨ c.toNat = 9) ∧ s[s.length - 1]? = some d ∧ ¬ (d.toNat = 32 ∨ d.toNat = 9)) : trmF s = s := by
  rcases h with rfl | ⟨c, d, hc, h1, hd, h2⟩
  · rfl
  · have e1 : isBl c = false := by rw [Bool.eq_false_iff]; exact fun h => h1 ((isBl_iff c).1 h)
    have e2 : isBl d = false := by rw [Bool.eq_false_iff]; exact fun h => h2 ((isBl_iff d).1 h)
    unfold trmF
    rw [dropE_keep hd e2]
    cases s with
    | nil => rfl
    | cons x l => obtain rfl : x = c := by simpa using hc
                  unfold dropB; rw [List.dropWhile_cons, e1]; simp
theorem vK (s : List UInt8) : (trmF s).length ≤ s.length := by
 have b : ∀ l : List UInt8, (dropB l).length ≤ l.length := fun l => (List.dropWhile_sublist _).length_le
 have a : (dropE s).length ≤ s.length := by unfold dropE; rw [List.length_reverse]; exact Nat.le_trans (List.dropWhile_sublist _).length_le (by simp)
 exact Nat.le_trans (b _) a
def splF (b : UInt8) : List UInt8 → List (List UInt8)
  | [] => [[]]
  | c :: l => if c = b then [] :: splF b l else match splF b l with
    | [] => [[c]]
    | p :: r => (c :: p) :: r
theorem splF_ne (b : UInt8) (l : List UInt8) : ∃ p r, splF b l = p :: r := by
 induction l with
 | nil => exact ⟨_, _, rfl⟩
 | cons c l ih =>
  obtain ⟨p, r, e⟩ := ih
  unfold splF
  split
  ·exact ⟨_, _, rfl⟩
  ·rw [e]; exact ⟨_, _, rfl⟩
theorem splF_run {b : UInt8} : ∀ (p l : List UInt8), b ∉ p → splF b (p ++ b :: l) = p :: splF b l
 | [], l, _ => by simp [splF]
 | c :: p, l, h => by
  rw [List.cons_append, splF, if_neg (fun e => h (by simp [e])), splF_run p l (fun e => h (List.mem_cons_of_mem _ e))]
theorem splF_one {b : UInt8} : ∀ (p : List UInt8), b ∉ p → splF b p = [p]
 | [], _ => rfl
 | c :: p, h => by
  rw [splF, if_neg (fun e => h (by simp [e])), splF_one p (fun e => h (List.mem_cons_of_mem _ e))]
def fieldsF (s : List UInt8) : List (List UInt8) := if trmF s = [] then [] else (splF 59 s).map trmF
theorem splF_trm_cons {c : UInt8} (l : List UInt8) (h : isBl c = true) : (splF 59 (c :: l)).map trmF = (splF 59 l).map trmF := by
 have hne : c ≠ 59 := by rintro rfl; exact absurd h (by decide)
 obtain ⟨p, r, e⟩ := splF_ne 59 l
 rw [splF, if_neg hne, e]
 simp [trm_cons p h]
theorem splF_snoc {b c : UInt8} (h : c ≠ b) : ∀ l : List UInt8, ∃ i z, splF b l = i ++ [z] ∧ splF b (l ++ [c]) = i ++ [z ++ [c]]
 | [] => ⟨[], [], rfl, by simp [splF, h]⟩
 | x :: l => by
  obtain ⟨i, z, d, a⟩ := splF_snoc h l
  rw [List.cons_append, splF, splF, d, a]
  by_cases hx : x = b
  ·rw [if_pos hx, if_pos hx]; exact ⟨[] :: i, z, rfl, rfl⟩
  ·rw [if_neg hx, if_neg hx]
   cases i with
   | nil => exact ⟨[], x :: z, rfl, rfl⟩
   | cons p i => exact ⟨(x :: p) :: i, z, rfl, rfl⟩
theorem splF_trm_snoc {c : UInt8} (h : isBl c = true) (l : List UInt8) : (splF 59 (l ++ [c])).map trmF = (splF 59 l).map trmF := by
 obtain ⟨i, z, d, a⟩ := splF_snoc (b := 59) (c := c) (by rintro rfl; exact absurd h (by decide)) l
 rw [d, a]; simp [trm_snoc z h]
theorem splF_dropB : ∀ l : List UInt8, (splF 59 (dropB l)).map trmF = (splF 59 l).map trmF ∧ trmF (dropB l) = trmF l
 | [] => ⟨rfl, rfl⟩
 | c :: l => by
  unfold dropB
  rw [List.dropWhile_cons]
  split
  ·have ih := splF_dropB l
   unfold dropB at ih
   exact ⟨ih.1.trans (splF_trm_cons l (by assumption)).symm, ih.2.trans (trm_cons l (by assumption)).symm⟩
  ·exact ⟨rfl, rfl⟩
theorem splF_dropE (l : List UInt8) : (splF 59 (dropE l)).map trmF = (splF 59 l).map trmF ∧ trmF (dropE l) = trmF l := by
 have key : ∀ (r l : List UInt8), l = r.reverse → (splF 59 (dropE l)).map trmF = (splF 59 l).map trmF ∧ trmF (dropE l) = trmF l := by
  intro r
  induction r with
  | nil => rintro l rfl; exact ⟨rfl, rfl⟩
  | cons c r ih =>
   rintro l rfl
   rw [List.reverse_cons]
   by_cases h : isBl c = true
   ·rw [dropE_snoc c _ h]
    have := ih _ rfl
    exact ⟨this.1.trans (splF_trm_snoc h _).symm, this.2.trans (trm_snoc _ h).symm⟩
   ·have : dropE (r.reverse ++ [c]) = r.reverse ++ [c] := by
     unfold dropE; rw [List.reverse_append]; simp [h]
    rw [this]; exact ⟨rfl, rfl⟩
 exact key l.reverse l (by simp)
theorem trm_trm (s : List UInt8) : trmF (trmF s) = trmF s := by
 show trmF (dropB (dropE s)) = _
 rw [(splF_dropB _).2, (splF_dropE s).2]
theorem fields_trm (s : List UInt8) : fieldsF (trmF s) = fieldsF s := by
 unfold fieldsF
 rw [trm_trm]
 split
 ·rfl
 ·show (splF 59 (dropB (dropE s))).map trmF = _
  rw [(splF_dropB _).1, (splF_dropE s).1]
def untF (b : UInt8) (s : List UInt8) : List UInt8 × List UInt8 × Bool := (s.takeWhile (· != b), (s.dropWhile (· != b)).drop 1, s.contains b)
def noB (b : UInt8) (s : List UInt8) (f i : Nat) : Prop := ∀ j c, f ≤ j → j < i → s[j]? = some c → c ≠ b
theorem noB_zero (b : UInt8) (s : List UInt8) (f : Nat) : noB b s f f := fun j c h1 h2 => by omega
theorem noB_succ {b c : UInt8} {s : List UInt8} {f i : Nat} (h : noB b s f i) (hc : s[i]? = some c) (hne : c.toNat ≠ b.toNat) : noB b s f (i + 1) := by
 intro j d g k hd
 rcases Nat.lt_or_ge j i with a | a
 ·exact h j d g a hd
 ·obtain rfl : j = i := by omega
  rw [hc] at hd; cases hd
  exact fun e => hne (by rw [e])
theorem noB_mem {b : UInt8} {s : List UInt8} {f i : Nat} (h : noB b s f i) : b ∉ (s.take i).drop f := by
 intro hm
 obtain ⟨j, hj⟩ := List.mem_iff_getElem?.1 hm
 rw [List.getElem?_drop, List.getElem?_take] at hj
 split at hj
 ·exact h (f + j) b (by omega) (by omega) hj rfl
 ·cases hj
theorem cut_at {b : UInt8} {s : List UInt8} {f i : Nat} {c : UInt8} (hf : f ≤ i) (hc : s[i]? = some c) (he : c.toNat = b.toNat) : s.drop f = (s.take i).drop f ++ b :: s.drop (i + 1) := by
 obtain rfl : c = b := UInt8.toNat_inj.1 he
 have hlt : i < s.length := (List.getElem?_eq_some_iff.1 hc).1
 conv => lhs; rw [← List.take_append_drop i s]
 rw [List.drop_append, xW hc]
 have : f - (s.take i).length = 0 := by rw [List.length_take]; omega
 rw [this, List.drop_zero]
theorem untF_run {b : UInt8} {p l : List UInt8} (h : b ∉ p) : untF b (p ++ b :: l) = (p, l, true) := by
 unfold untF
 have a : ∀ x ∈ p, (x != b) = true := fun x hx => by simp; rintro rfl; exact h hx
 rw [List.takeWhile_append_of_pos a, List.dropWhile_append_of_pos a]
 simp
theorem tw_all {p : UInt8 → Bool} : ∀ l : List UInt8, (∀ x ∈ l, p x = true) → l.takeWhile p = l
 | [], _ => rfl
 | c :: l, h => by rw [List.takeWhile_cons, if_pos (h c List.mem_cons_self), tw_all l (fun x hx => h x (List.mem_cons_of_mem _ hx))]
theorem untF_none {b : UInt8} {p : List UInt8} (h : b ∉ p) : untF b p = (p, [], false) := by
 unfold untF
 have d : ∀ x ∈ p, (x != b) = true := fun x hx => by simp; rintro rfl; exact h hx
 have a : p.takeWhile (· != b) = p := tw_all p d
 have c : p.dropWhile (· != b) = [] := by
  have := List.takeWhile_append_dropWhile (p := (· != b)) (l := p)
  rw [a] at this; simpa using this
 rw [a, c]; simp [h]
theorem unt_hit {b : UInt8} {s : List UInt8} {i : Nat} {c : UInt8} (h : noB b s 0 i) (hc : s[i]? = some c) (he : c.toNat = b.toNat) : untF b s = (s.take i, s.drop (i + 1), true) := by
 have hm := noB_mem h
 have a := cut_at (Nat.zero_le i) hc he
 simp only [List.drop_zero] at a hm
 conv => lhs; rw [a]
 exact untF_run hm
theorem unt_none {b : UInt8} {s : List UInt8} {i : Nat} (h : noB b s 0 i) (hi : s.length ≤ i) : untF b s = (s, [], false) := by
 have hm := noB_mem h
 rw [List.take_of_length_le hi, List.drop_zero] at hm
 exact untF_none hm
theorem unt_split (b : UInt8) : ∀ s : List UInt8, (b ∉ s ∧ untF b s = (s, [], false)) ∨ ∃ p l, s = p ++ b :: l ∧ b ∉ p ∧ untF b s = (p, l, true)
 | [] => .inl ⟨by simp, rfl⟩
 | c :: s => by
  by_cases hc : c = b
  ·subst hc; exact .inr ⟨[], s, rfl, by simp, untF_run (p := []) (by simp)⟩
  ·rcases unt_split b s with ⟨d, _⟩ | ⟨p, l, rfl, a, _⟩
   ·have : b ∉ c :: s := by simp only [List.mem_cons, not_or]; exact ⟨fun e => hc e.symm, d⟩
    exact .inl ⟨this, untF_none this⟩
   ·have : b ∉ c :: p := by simp only [List.mem_cons, not_or]; exact ⟨fun e => hc e.symm, a⟩
    exact .inr ⟨c :: p, l, rfl, this, untF_run this⟩
theorem index_run {b : UInt8} : ∀ (p l : List UInt8), b ∉ p → Lib.index (p ++ b :: l) [b] = (p.length : Int)
 | [], l, _ => by simp [Lib.index, List.isPrefixOf]
 | c :: p, l, h => by
  have hc : ¬ b = c := fun e => h (by simp [e])
  have ih := index_run p l (fun e => h (List.mem_cons_of_mem _ e))
  rw [List.cons_append, Lib.index, ih]
  have : ([b].isPrefixOf (c :: (p ++ b :: l))) = false := by simp [List.isPrefixOf, hc]
  rw [this]
  have a : (((p.length : Int)) == -1) = false := by rw [beq_eq_false_iff_ne]; omega
  rw [a]; simp
theorem index_none {b : UInt8} : ∀ (p : List UInt8), b ∉ p → Lib.index p [b] = -1
 | [], _ => by simp [Lib.index]
 | c :: p, h => by
  have hc : ¬ b = c := fun e => h (by simp [e])
  rw [Lib.index, index_none p (fun e => h (List.mem_cons_of_mem _ e))]
  have : ([b].isPrefixOf (c :: p)) = false := by simp [List.isPrefixOf, hc]
  rw [this]; simp
theorem cut_unt (b : UInt8) (s : List UInt8) : Lib.cut s [b] = untF b s := by
 rcases unt_split b s with ⟨c, a⟩ | ⟨p, l, rfl, c, a⟩
 ·rw [a]; unfold Lib.cut; rw [index_none s c, if_neg (by omega)]
 ·rw [a]; unfold Lib.cut; rw [index_run p l c, if_pos (by omega)]
  simp
theorem unt_len (b : UInt8) (s : List UInt8) : (untF b s).1.length ≤ s.length ∧ (untF b s).2.1.length ≤ s.length := by
 rcases unt_split b s with ⟨c, a⟩ | ⟨p, l, rfl, c, a⟩
 ·rw [a]; simp
 ·rw [a]; simp; omega
theorem fld_hit {s : List UInt8} {f i : Nat} {c : UInt8} {acc : List (List UInt8)} (h : noB 59 s f i) (hf : f ≤ i) (hc : s[i]? = some c) (he : c.toNat = 59) (hi : acc ++ (splF 59 (s.drop f)).map trmF = (splF 59 s).map trmF) :
  (acc ++ [trmF ((s.take i).drop f)]) ++ (splF 59 (s.drop (i + 1))).map trmF = (splF 59 s).map trmF := by
 rw [← hi, cut_at (b := 59) hf hc he, splF_run _ _ (noB_mem h)]; simp
theorem fld_end {s : List UInt8} {f i : Nat} {acc : List (List UInt8)} (h : noB 59 s f i) (hl : s.length ≤ i) (hi : acc ++ (splF 59 (s.drop f)).map trmF = (splF 59 s).map trmF) (hne : trmF s ≠ []) : acc ++ [trmF (s.drop f)] = fieldsF s := by
 have hm := noB_mem h
 rw [List.take_of_length_le hl] at hm
 unfold fieldsF
 rw [if_neg hne, ← hi, splF_one _ hm]; rfl
theorem fields_nil {s : List UInt8} (h : trmF s = []) : fieldsF s = [] := by unfold fieldsF; rw [if_pos h]
theorem fld_more {s t : List UInt8} {acc : List (List UInt8)} (hu : (untF 59 t).2.2 = true) (hi : acc ++ (splF 59 t).map trmF = (splF 59 s).map trmF) : (acc ++ [trmF (untF 59 t).1]) ++ (splF 59 (untF 59 t).2.1).map trmF = (splF 59 s).map trmF := by
 rcases unt_split 59 t with ⟨b, a⟩ | ⟨p, l, rfl, b, a⟩
 ·rw [a] at hu; cases hu
 ·rw [a, ← hi, splF_run _ _ b]; simp
theorem fld_last {s t : List UInt8} {acc : List (List UInt8)} (hu : (untF 59 t).2.2 = false) (hi : acc ++ (splF 59 t).map trmF = (splF 59 s).map trmF) (hne : trmF s ≠ []) : acc ++ [trmF (untF 59 t).1] = fieldsF s := by
 rcases unt_split 59 t with ⟨b, a⟩ | ⟨p, l, rfl, b, a⟩
 ·rw [a]; unfold fieldsF; rw [if_neg hne, ← hi, splF_one _ b]; rfl
 ·rw [a] at hu; cases hu
theorem unt_more {b : UInt8} {t : List UInt8} (hu : (untF b t).2.2 = true) : (untF b t).2.1.length < t.length := by
 rcases unt_split b t with ⟨c, a⟩ | ⟨p, l, rfl, c, a⟩
 ·rw [a] at hu; cases hu
 ·rw [a]; simp; omega
theorem vO (s sep : List UInt8) : (Lib.cut s sep).1.length ≤ s.length ∧ (Lib.cut s sep).2.1.length ≤ s.length := by
 unfold Lib.cut
 split
 ·simp only [List.length_take, List.length_drop]; omega
 ·simp
theorem cut_some {s sep : List UInt8} (h : 0 ≤ Lib.index s sep) : Lib.cut s sep = (s.take (Lib.index s sep).toNat, s.drop (Lib.index s sep + (sep.length : Nat)).toNat, true) := by
 unfold Lib.cut; rw [if_pos h]
 rw [show (Lib.index s sep + (sep.length : Nat)).toNat = (Lib.index s sep).toNat + sep.length by omega]
theorem cut_none {s sep : List UInt8} (h : Lib.index s sep < 0) : Lib.cut s sep = (s, [], false) := by
 unfold Lib.cut; rw [if_neg (by omega)]
theorem ixl_range (s sep : List UInt8) : -1 ≤ Lib.index s sep ∧ (0 ≤ Lib.index s sep → Lib.index s sep + (sep.length : Nat) ≤ s.length) := by
 refine ⟨Lib.index_ge s sep, ?_⟩
 induction s with
 | nil =>
  rw [Lib.index]
  split
  ·rename_i h; intro _; rw [List.isEmpty_iff.1 h]; simp
  ·intro h; omega
 | cons b l ih =>
  rw [Lib.index]
  split
  ·rename_i h; intro _
   have := (List.isPrefixOf_iff_prefix.1 h).length_le
   omega
  ·split
   ·intro h; omega
   ·rename_i h2; intro h
    have c : Lib.index l sep ≠ -1 := by simpa using h2
    have a := Lib.index_ge l sep
    have := ih (by omega)
    rw [List.length_cons]; omega
def cutF (s : List UInt8) : List (List UInt8) × List UInt8 := (fieldsF (Lib.cut s [35]).1, trmF (Lib.cut s [35]).2.1)
def nmB (c : UInt8) : Bool := decide ((65 ≤ c.toNat ∧ c.toNat ≤ 90) ∨ (97 ≤ c.toNat ∧ c.toNat ≤ 122) ∨ (48 ≤ c.toNat ∧ c.toNat ≤ 57) ∨ c.toNat = 95 ∨ c.toNat = 45)
def nameF (s : List UInt8) : Bool := s.all nmB && decide (s ≠ [])
theorem dec_low {s : List UInt8} {p : Nat} {c : UInt8} (hc : s[p]? = some c) (h : c.toNat < 128) : dec s p = (c.toNat, 1) := by
 rw [dec_at', show s.getD p 0 = c by simp [List.getD, hc]]
 unfold Lib.decodeN; rw [if_pos h]
theorem dec_high {s : List UInt8} {p : Nat} {c : UInt8} (hc : s[p]? = some c) (h : 128 ≤ c.toNat) : 128 ≤ (dec s p).1 := by
 rw [dec_at', show s.getD p 0 = c by simp [List.getD, hc]]
 unfold Lib.decodeN
 rw [if_neg (by omega)]
 repeat' split
 all_goals simp only; omega
theorem vZ {s : List UInt8} {p : Nat} (h : p < s.length) (hr : (65 ≤ (dec s p).1 ∧ (dec s p).1 ≤ 90) ∨ (97 ≤ (dec s p).1 ∧ (dec s p).1 ≤ 122) ∨ (48 ≤ (dec s p).1 ∧ (dec s p).1 ≤ 57) ∨ (dec s p).1 = 95 ∨ (dec s p).1 = 45)
  (hi : (s.drop p).all nmB = s.all nmB) : (s.drop (p + (dec s p).2)).all nmB = s.all nmB := by
 obtain ⟨c, hc⟩ := zX s p h
 by_cases a : c.toNat < 128
 ·have e := dec_low hc a
  rw [e] at hr ⊢
  rw [← hi, xW hc, List.all_cons]
  have : nmB c = true := by simpa [nmB] using hr
  rw [this]; simp
 ·have := dec_high hc (by omega); omega
theorem nm_off {s : List UInt8} {p : Nat} (h : p < s.length) (hr : ¬ ((65 ≤ (dec s p).1 ∧ (dec s p).1 ≤ 90) ∨ (97 ≤ (dec s p).1 ∧ (dec s p).1 ≤ 122) ∨ (48 ≤ (dec s p).1 ∧ (dec s p).1 ≤ 57) ∨ (dec s p).1 = 95 ∨ (dec s p).1 = 45))
  (hi : (s.drop p).all nmB = s.all nmB) : nameF s = false := by
 obtain ⟨c, hc⟩ := zX s p h
 have : nmB c = false := by
  by_cases a : c.toNat < 128
  ·have e := dec_low hc a
   rw [e] at hr
   simpa [nmB] using hr
  ·simp [nmB]; omega
 unfold nameF
 rw [← hi, xW hc, List.all_cons, this]; rfl
theorem nm_end {s : List UInt8} {p : Nat} (h : s.length ≤ p) (hi : (s.drop p).all nmB = s.all nmB) : nameF s = decide (s ≠ []) := by
 rw [List.drop_eq_nil_of_le h] at hi
 unfold nameF; rw [← hi]; rfl
abbrev LineD := Int × Int × List UInt8 × List (List UInt8) × List UInt8
def missT : List UInt8 := [64, 109, 105, 115, 115, 105, 110, 103, 58]
def zeroL : LineD := (0, 0, [], [], [])
def headF (s : List UInt8) : List UInt8 := trmF (Lib.cut s [35]).1
def noteF (s : List UInt8) : List UInt8 := trmF (Lib.cut s [35]).2.1
theorem cutF_len (s : List UInt8) : (cutF s).2.length ≤ s.length := Nat.le_trans (vK _) (vO s [35]).2
theorem headF_unt (s : List UInt8) : headF s = trmF (untF 35 s).1 := by unfold headF; rw [cut_unt]
theorem noteF_unt (s : List UInt8) : noteF s = trmF (untF 35 s).2.1 := by unfold noteF; rw [cut_unt]
theorem cutF_head (s : List UInt8) : (cutF s).1 = fieldsF (headF s) := by unfold headF; rw [fields_trm]; rfl
def ordF (s : List UInt8) : List UInt8 × List UInt8 × Bool := Lib.cut ((headF s).drop 1) [58]
def scanF (no : Int) (s : List UInt8) : LineD × Int :=
  if (chkF s).2 ≠ 0 then (zeroL, (chkF s).2) else
  if headF s = [] then (if hpB (noteF s) missT = true then ((no, 3, [], (cutF ((noteF s).drop 9)).1, (cutF ((noteF s).drop 9)).2), 0) else ((no, 0, [], [], noteF s), 0)) else
  if hpB (headF s) [64] = true then
    (if (ordF s).2.2 = false ∨ nameF (ordF s).1 = false then (zeroL, 33) else ((no, 2, (ordF s).1, fieldsF (ordF s).2.1, noteF s), 0))
  else ((no, 1, [], (cutF s).1, noteF s), 0)
theorem hp_ne {s p : List UInt8} (h : hpB s p = true) (hp : p ≠ []) : s ≠ [] := by
 rintro rfl; cases p <;> simp [hpB] at *
theorem hp_len {s p : List UInt8} (h : hpB s p = true) : p.length ≤ s.length := by
 unfold hpB at h
 exact (List.isPrefixOf_iff_prefix.1 h).length_le
theorem scan_bad {no : Int} {s : List UInt8} (h : (chkF s).2 ≠ 0) : scanF no s = (zeroL, (chkF s).2) := by unfold scanF; rw [if_pos h]
theorem uG {no : Int} {s : List UInt8} (h : (chkF s).2 = 0) (h1 : headF s = []) (h2 : hpB (noteF s) missT = true) : scanF no s = ((no, 3, [], (cutF ((noteF s).drop 9)).1, (cutF ((noteF s).drop 9)).2), 0) := by
 unfold scanF; rw [if_neg (by omega), if_pos h1, if_pos h2]
theorem cut_empty {s : List UInt8} (h : headF s = []) : (cutF s).1 = [] := by rw [cutF_head, h]; rfl
theorem uY {no : Int} {s : List UInt8} (h : (chkF s).2 = 0) (h1 : headF s = []) (h2 : hpB (noteF s) missT = false) : scanF no s = ((no, 0, [], (cutF s).1, noteF s), 0) := by
 rw [cut_empty h1]; unfold scanF; rw [if_neg (by omega), if_pos h1, if_neg (by rw [h2]; decide)]
theorem Za {no : Int} {s : List UInt8} (h : (chkF s).2 = 0) (h2 : hpB (headF s) [64] = true) (h3 : (ordF s).2.2 = true) (h4 : nameF (ordF s).1 = true) :
  scanF no s = ((no, 2, (ordF s).1, fieldsF (ordF s).2.1, noteF s), 0) := by
 unfold scanF; rw [if_neg (by omega), if_neg (hp_ne h2 (by decide)), if_pos h2, if_neg (by rw [h3, h4]; decide)]
theorem xZ {no : Int} {s : List UInt8} (h : (chkF s).2 = 0) (h2 : hpB (headF s) [64] = true) (h3 : (ordF s).2.2 = false ∨ nameF (ordF s).1 = false) : scanF no s = (zeroL, 33) := by
 unfold scanF; rw [if_neg (by omega), if_neg (hp_ne h2 (by decide)), if_pos h2, if_pos h3]
theorem scan_data {no : Int} {s : List UInt8} (h : (chkF s).2 = 0) (h1 : headF s ≠ []) (h2 : hpB (headF s) [64] = false) : scanF no s = ((no, 1, [], (cutF s).1, noteF s), 0) := by
 unfold scanF; rw [if_neg (by omega), if_neg h1, if_neg (by rw [h2]; decide)]
theorem scan_err (no : Int) (s : List UInt8) : 0 ≤ (scanF no s).2 ∧ (scanF no s).2 ≤ 33 := by
 have := chkF_range s
 unfold scanF
 repeat' split
 all_goals first | exact ⟨this.2.1, by simp only; omega⟩ | exact ⟨by simp, by simp⟩
end Go.FK
end

/- === PLpcs === -/
section
/- Plain functions of chapter 3: the pieces of a text, and what is told of them. -/
namespace Go.FK
open Go Go.RowKit
def encPc (x : Int × Int × Int) : List Value := [.int .i64 x.1, .int .i64 x.2.1, .int .i64 x.2.2]
def markT : List UInt8 := [239, 187, 191]
def markN (s : List UInt8) : Nat := if hpB s markT = true then 3 else 0
theorem mark_len (s : List UInt8) : markN s ≤ s.length := by
 unfold markN
 split
 ·exact hp_len (p := markT) (by assumption)
 ·exact Nat.zero_le _
def crN (s : List UInt8) (a i : Nat) : Nat := if a < i ∧ s.getD (i - 1) 0 = 13 then i - 1 else i
theorem crN_le (s : List UInt8) (a i : Nat) : crN s a i ≤ i ∧ (a ≤ i → a ≤ crN s a i) := by unfold crN; split <;> omega
def pcsN (s : List UInt8) : Nat → Nat → Nat → List (Nat × Nat × Nat)
  | 0, a, _ => [(a, s.length, s.length)]
  | n + 1, a, i => if s.getD i 0 = 10 then (a, crN s a i, i + 1) :: pcsN s n (i + 1) (i + 1) else pcsN s n a (i + 1)
def pcsFrom (s : List UInt8) (a i : Nat) : List (Nat × Nat × Nat) := pcsN s (s.length - i) a i
theorem pcs_end {s : List UInt8} {a i : Nat} (h : s.length ≤ i) : pcsFrom s a i = [(a, s.length, s.length)] := by
 unfold pcsFrom; rw [show s.length - i = 0 by omega]; rfl
theorem getD_some {s : List UInt8} {i : Nat} {c : UInt8} (h : s[i]? = some c) : s.getD i 0 = c := by simp [List.getD, h]
theorem pcs_nl {s : List UInt8} {a i : Nat} {c : UInt8} (hc : s[i]? = some c) (h : c.toNat = 10) : pcsFrom s a i = (a, crN s a i, i + 1) :: pcsFrom s (i + 1) (i + 1) := by
 have hlt : i < s.length := (List.getElem?_eq_some_iff.1 hc).1
 have e : c = 10 := UInt8.toNat_inj.1 h
 unfold pcsFrom
 rw [show s.length - i = s.length - (i + 1) + 1 by omega, pcsN, getD_some hc, if_pos e]
theorem pcs_on {s : List UInt8} {a i : Nat} {c : UInt8} (hc : s[i]? = some c) (h : c.toNat ≠ 10) : pcsFrom s a i = pcsFrom s a (i + 1) := by
 have hlt : i < s.length := (List.getElem?_eq_some_iff.1 hc).1
 have e : c ≠ 10 := fun e => h (by rw [e]; rfl)
 unfold pcsFrom
 rw [show s.length - i = s.length - (i + 1) + 1 by omega, pcsN, getD_some hc, if_neg e]
theorem pcs_skip {s : List UInt8} {a k : Nat} : ∀ (n i : Nat), k - i = n → i ≤ k → k ≤ s.length → noB 10 s i k → pcsFrom s a i = pcsFrom s a k
  | 0, i, h, h1, _, _ => by obtain rfl : i = k := by omega
                            rfl
  | n + 1, i, h, h1, h2, h3 => by
    obtain ⟨c, hc⟩ := zX s i (by omega)
    rw [pcs_on hc (fun e => h3 i c (Nat.le_refl _) (by omega) hc (UInt8.toNat_inj.1 e))]
    exact pcs_skip n (i + 1) (by omega) (by omega) h2 (fun j c h4 h5 => h3 j c (by omega) h5)
def ibF (s : List UInt8) (c : Int) : Int := Lib.indexByte s c.toNat.toUInt8
theorem ib_spec (l : List UInt8) : (ibF l 10 = -1 ∧ ∀ (j : Nat) (c : UInt8), l[j]? = some c → c ≠ 10) ∨ ∃ k : Nat, ibF l 10 = k ∧ k < l.length ∧ l[k]? = some 10 ∧ ∀ (j : Nat) (c : UInt8), j < k → l[j]? = some c → c ≠ 10 := by
 show (Lib.indexByte l 10 = -1 ∧ _) ∨ ∃ k : Nat, Lib.indexByte l 10 = k ∧ _
 induction l with
 | nil => exact .inl ⟨rfl, fun j c h => by simp at h⟩
 | cons x l ih =>
  rw [Lib.indexByte]
  by_cases hx : x = 10
  ·subst hx
   exact .inr ⟨0, by simp, by simp, by simp, fun j c h => by omega⟩
  ·have hb : (x == 10) = false := by simpa using hx
   rw [hb]
   rcases ih with ⟨a, b⟩ | ⟨k, a, b, e, d⟩
   ·rw [a]
    refine .inl ⟨by simp, fun j c h => ?_⟩
    cases j with
    | zero => simp at h; subst h; exact hx
    | succ j => exact b j c (by simpa using h)
   ·rw [a]
    have hk : (((k : Nat) : Int) == -1) = false := by rw [beq_eq_false_iff_ne]; omega
    rw [hk]
    refine .inr ⟨k + 1, by simp, by simp; omega, by simpa using e, fun j c hj h => ?_⟩
    cases j with
    | zero => simp at h; subst h; exact hx
    | succ j => exact d j c (by omega) (by simpa using h)
def toI (p : Nat × Nat × Nat) : Int × Int × Int := ((p.1 : Int), (p.2.1 : Int), (p.2.2 : Int))
def pcsI (s : List UInt8) : List (Int × Int × Int) := (pcsFrom s (markN s) (markN s)).map toI
theorem pcsI_end {s : List UInt8} {a : Nat} {acc : List (Int × Int × Int)} (ha : a ≤ s.length) (hn : ibF (s.drop a) 10 < 0) (hi : acc ++ (pcsFrom s a a).map toI = pcsI s) : acc ++ [((a : Int), (s.length : Int), (s.length : Int))] = pcsI s := by
 rcases ib_spec (s.drop a) with ⟨d, b⟩ | ⟨k, d, b, f, e⟩
 ·rw [← hi, pcs_skip (s := s) (a := a) (k := s.length) _ a rfl ha (Nat.le_refl _) (fun j c h5 h6 h7 => b (j - a) c (by rw [List.getElem?_drop, show a + (j - a) = j by omega]; exact h7)), pcs_end (Nat.le_refl _)]
  rfl
 ·omega
theorem ib_at {s : List UInt8} {a : Nat} (hn : 0 ≤ ibF (s.drop a) 10) : a + (ibF (s.drop a) 10).toNat < s.length ∧ s[a + (ibF (s.drop a) 10).toNat]? = some 10 ∧ noB 10 s a (a + (ibF (s.drop a) 10).toNat) := by
 rcases ib_spec (s.drop a) with ⟨e, b⟩ | ⟨k, e, b, d, f⟩
 ·omega
 ·rw [e, Int.toNat_natCast]
  rw [List.length_drop] at b
  rw [List.getElem?_drop] at d
  refine ⟨by omega, d, fun j c h5 h6 h7 => f (j - a) c (by omega) (by rw [List.getElem?_drop, show a + (j - a) = j by omega]; exact h7)⟩
theorem pcsI_step {s : List UInt8} {a : Nat} {acc : List (Int × Int × Int)} (hn : 0 ≤ ibF (s.drop a) 10) (hi : acc ++ (pcsFrom s a a).map toI = pcsI s) :
  (acc ++ [((a : Int), ((crN s a (a + (ibF (s.drop a) 10).toNat) : Nat) : Int), (((a + (ibF (s.drop a) 10).toNat + 1 : Nat)) : Int))]) ++ (pcsFrom s (a + (ibF (s.drop a) 10).toNat + 1) (a + (ibF (s.drop a) 10).toNat + 1)).map toI = pcsI s := by
 obtain ⟨d, c, b⟩ := ib_at hn
 rw [← hi, pcs_skip (s := s) (a := a) _ a rfl (Nat.le_add_right _ _) (Nat.le_of_lt d) b, pcs_nl c rfl]
 simp [toI]
def pcOk (s : List UInt8) (p : Int × Int × Int) : Prop := 0 ≤ p.1 ∧ p.1 ≤ p.2.1 ∧ p.2.1 ≤ p.2.2 ∧ p.2.2 ≤ s.length
theorem pcs_okN (s : List UInt8) : ∀ (n a i : Nat), s.length - i = n → a ≤ i → i ≤ s.length → ∀ p ∈ pcsN s n a i, p.1 ≤ p.2.1 ∧ p.2.1 ≤ p.2.2 ∧ p.2.2 ≤ s.length
 | 0, a, i, h, h1, h2 => by
  intro p hp
  rw [pcsN] at hp
  obtain rfl := List.mem_singleton.1 hp
  exact ⟨by simp only; omega, Nat.le_refl _, Nat.le_refl _⟩
 | n + 1, a, i, h, h1, h2 => by
  intro p hp
  rw [pcsN] at hp
  split at hp
  ·have := crN_le s a i
   rcases List.mem_cons.1 hp with rfl | hp
   ·exact ⟨this.2 h1, by simp only; omega, by simp only; omega⟩
   ·exact pcs_okN s n (i + 1) (i + 1) (by omega) (Nat.le_refl _) (by omega) p hp
  ·exact pcs_okN s n a (i + 1) (by omega) (by omega) (by omega) p hp
theorem pcsI_ok {s : List UInt8} {i : Nat} {p : Int × Int × Int} (h : (pcsI s)[i]? = some p) : pcOk s p := by
 have hm := List.mem_of_getElem? h
 obtain ⟨q, hq, rfl⟩ := List.mem_map.1 hm
 have hk := mark_len s
 obtain ⟨c, a, b⟩ := pcs_okN s _ _ _ rfl (Nat.le_refl _) hk q hq
 exact ⟨by simp only [toI]; omega, by simp only [toI]; omega, by simp only [toI]; omega, by simp only [toI]; omega⟩
theorem pcsN_len (s : List UInt8) : ∀ (n a i : Nat), 1 ≤ (pcsN s n a i).length ∧ (pcsN s n a i).length ≤ n + 1
 | 0, a, i => by simp [pcsN]
 | n + 1, a, i => by
  have c := pcsN_len s n (i + 1) (i + 1)
  have b := pcsN_len s n a (i + 1)
  rw [pcsN]
  split
  ·rw [List.length_cons]; omega
  ·omega
theorem pcsI_len (s : List UInt8) : 1 ≤ (pcsI s).length ∧ (pcsI s).length ≤ s.length + 1 := by
 unfold pcsI pcsFrom
 rw [List.length_map]
 have := pcsN_len s (s.length - markN s) (markN s) (markN s)
 omega
def toldL (s : List UInt8) : Nat → List (Int × Int × Int) → List (Int × List UInt8)
  | _, [] => []
  | k, p :: l => if p.1 = p.2.2 then [] else (((k + 1 : Nat) : Int), (s.take p.2.1.toNat).drop p.1.toNat) :: toldL s (k + 1) l
def toldF (s : List UInt8) : List (Int × List UInt8) := toldL s 0 (pcsI s)
theorem told_stop {s : List UInt8} {i : Nat} {p : Int × Int × Int} {pre : List (Int × List UInt8)} (hp : (pcsI s)[i]? = some p) (h : p.1 = p.2.2) (hi : pre ++ toldL s i ((pcsI s).drop i) = toldF s) : pre = toldF s := by
 rw [xW hp, toldL, if_pos h, List.append_nil] at hi; exact hi
theorem told_end {s : List UInt8} {i : Nat} {pre : List (Int × List UInt8)} (h : (pcsI s).length ≤ i) (hi : pre ++ toldL s i ((pcsI s).drop i) = toldF s) : pre = toldF s := by
 rw [List.drop_eq_nil_of_le h, toldL, List.append_nil] at hi; exact hi
theorem told_step {s : List UInt8} {i : Nat} {p : Int × Int × Int} {pre : List (Int × List UInt8)} (hp : (pcsI s)[i]? = some p) (h : p.1 ≠ p.2.2) (hi : pre ++ toldL s i ((pcsI s).drop i) = toldF s) :
  (pre ++ [(((i + 1 : Nat) : Int), (s.take p.2.1.toNat).drop p.1.toNat)]) ++ toldL s (i + 1) ((pcsI s).drop (i + 1)) = toldF s := by
 rw [xW hp, toldL, if_neg h] at hi; rw [← hi]; simp
theorem toldL_len (s : List UInt8) : ∀ (l : List (Int × Int × Int)) (k : Nat), (toldL s k l).length ≤ l.length
 | [], _ => by simp [toldL]
 | p :: l, k => by
  rw [toldL]
  split
  ·simp
  ·simp [toldL_len s l (k + 1)]
theorem Zm (s : List UInt8) : (toldF s).length ≤ s.length + 1 := Nat.le_trans (toldL_len _ _ _) (pcsI_len s).2
theorem toldL_short (s : List UInt8) : ∀ (l : List (Int × Int × Int)) (k : Nat), ∀ x ∈ toldL s k l, x.2.length ≤ s.length ∧ (k : Int) < x.1 ∧ x.1 ≤ k + l.length
 | [], _ => by simp [toldL]
 | p :: l, k => by
  intro x hx
  rw [toldL] at hx
  split at hx
  ·simp at hx
  ·rcases List.mem_cons.1 hx with rfl | hx
   ·simp only [List.length_drop, List.length_take, List.length_cons]; omega
   ·have := toldL_short s l (k + 1) x hx
    simp only [List.length_cons]; omega
theorem told_short {s : List UInt8} {x : Int × List UInt8} (h : x ∈ toldF s) : x.2.length ≤ s.length ∧ 0 < x.1 ∧ x.1 ≤ s.length + 1 := by
 have b := toldL_short s _ _ x h
 have a := (pcsI_len s).2
 omega
theorem pre_of3 {α : Type} {pre l all : List α} {x : α} (h : (pre ++ [x]) ++ l = all) : pre ++ [x] <+: all := ⟨l, h⟩
theorem pcsZ_end {s : List UInt8} {a : Int} {acc : List (Int × Int × Int)} (h0 : 0 ≤ a) (ha : a ≤ s.length) (hn : ibF (s.drop a.toNat) 10 < 0) (hi : acc ++ (pcsFrom s a.toNat a.toNat).map toI = pcsI s) : acc ++ [(a, ((s.length : Nat) : Int), ((s.length : Nat) : Int))] = pcsI s := by
 obtain ⟨k, rfl⟩ := Int.eq_ofNat_of_zero_le h0
 exact pcsI_end (by omega) hn hi
theorem ib_range (s : List UInt8) (c : Int) : -1 ≤ ibF s c ∧ (0 ≤ ibF s c → ibF s c < s.length) := by
 refine ⟨Lib.indexByte_ge _ _, ?_⟩
 unfold ibF
 induction s with
 | nil => intro h; simp [Lib.indexByte] at h
 | cons b l ih =>
  rw [Lib.indexByte]
  split
  ·intro _; simp
  ·split
   ·intro h; omega
   ·rename_i h2; intro h
    have d : Lib.indexByte l c.toNat.toUInt8 ≠ -1 := by simpa using h2
    have a := Lib.indexByte_ge l c.toNat.toUInt8
    have := ih (by omega)
    rw [List.length_cons]; omega
theorem pcsZ_step {s : List UInt8} {a n to : Int} {acc : List (Int × Int × Int)} (h0 : 0 ≤ a) (hn : n = ibF (s.drop a.toNat) 10) (hn0 : 0 ≤ n)
  (ht : (to = a + n - 1 ∧ 0 < n ∧ ∃ c : UInt8, s[(a + n - 1).toNat]? = some c ∧ c.toNat = 13) ∨ (to = a + n ∧ (n ≤ 0 ∨ ∃ c : UInt8, s[(a + n - 1).toNat]? = some c ∧ c.toNat ≠ 13)))
  (hi : acc ++ (pcsFrom s a.toNat a.toNat).map toI = pcsI s) : (acc ++ [(a, to, a + n + 1)]) ++ (pcsFrom s (a + n + 1).toNat (a + n + 1).toNat).map toI = pcsI s := by
 obtain ⟨k, rfl⟩ := Int.eq_ofNat_of_zero_le h0
 subst hn
 have h := pcsI_step (a := k) hn0 hi
 obtain ⟨j, hj⟩ := Int.eq_ofNat_of_zero_le hn0
 simp only [Int.toNat_natCast] at hj ht ⊢
 rw [hj] at h ht ⊢
 simp only [Int.toNat_natCast] at h
 have f : ((k : Int) + (j : Int) + 1).toNat = k + j + 1 := by omega
 rw [f]
 have g : to = ((crN s k (k + j) : Nat) : Int) := by
  unfold crN
  rcases ht with ⟨rfl, d, c, hc, b⟩ | ⟨rfl, d⟩
  ·rw [show ((k : Int) + (j : Int) - 1).toNat = k + j - 1 by omega] at hc
   rw [if_pos ⟨by omega, by rw [getD_some hc]; exact UInt8.toNat_inj.1 b⟩]; omega
  ·rw [if_neg]
   ·omega
   ·rintro ⟨i, e⟩
    rcases d with d | ⟨c, hc, b⟩
    ·omega
    ·rw [show ((k : Int) + (j : Int) - 1).toNat = k + j - 1 by omega] at hc
     rw [getD_some hc] at e
     exact b (by rw [e]; rfl)
 rw [g, show ((k : Int) + (j : Int) + 1) = (((k + j + 1 : Nat)) : Int) by omega]
 exact h
def linesF (l : List (Int × List UInt8)) : List LineD := l.map fun x => (scanF x.1 x.2).1
def badL : List (Int × List UInt8) → Int × Int
  | [] => (0, 0)
  | x :: l => if (scanF x.1 x.2).2 ≠ 0 then (x.1, (scanF x.1 x.2).2) else badL l
theorem bad_app {l : List (Int × List UInt8)} : ∀ {pre : List (Int × List UInt8)}, (badL pre).2 = 0 → badL (pre ++ l) = badL l
 | [], _ => rfl
 | x :: pre, h => by
  rw [badL] at h
  rw [List.cons_append, badL]
  by_cases hx : (scanF x.1 x.2).2 ≠ 0
  ·rw [if_pos hx] at h; exact absurd h hx
  ·rw [if_neg hx] at h ⊢; exact bad_app h
theorem bad_app2 {l : List (Int × List UInt8)} : ∀ {pre : List (Int × List UInt8)}, (badL pre).2 ≠ 0 → badL (pre ++ l) = badL pre
 | [], h => absurd rfl h
 | x :: pre, h => by
  rw [badL] at h
  rw [List.cons_append, badL, badL]
  by_cases hx : (scanF x.1 x.2).2 ≠ 0
  ·rw [if_pos hx, if_pos hx]
  ·rw [if_neg hx] at h; rw [if_neg hx, if_neg hx]; exact bad_app2 h
theorem bad_one (x : Int × List UInt8) : badL [x] = if (scanF x.1 x.2).2 ≠ 0 then (x.1, (scanF x.1 x.2).2) else (0, 0) := rfl
theorem bad_snoc {pre : List (Int × List UInt8)} {x : Int × List UInt8} (h : (badL pre).2 = 0) (hx : (scanF x.1 x.2).2 ≠ 0) : badL (pre ++ [x]) = (x.1, (scanF x.1 x.2).2) := by
 rw [bad_app h, bad_one, if_pos hx]
theorem bad_snoc_ok {pre : List (Int × List UInt8)} {x : Int × List UInt8} (h : (badL pre).2 = 0) (hx : (scanF x.1 x.2).2 = 0) : (badL (pre ++ [x])).2 = 0 := by
 rw [bad_app h, bad_one, if_neg (by omega)]
theorem bad_pre {pre els : List (Int × List UInt8)} (h : pre <+: els) (hb : (badL pre).2 ≠ 0) : badL els = badL pre := by
 obtain ⟨l, rfl⟩ := h; exact bad_app2 hb
theorem bad_zero {pre els : List (Int × List UInt8)} (h : pre <+: els) (hb : (badL els).2 = 0) : (badL pre).2 = 0 := by
 by_cases hp : (badL pre).2 = 0
 ·exact hp
 ·rw [bad_pre h hp] at hb; exact hb
theorem bad_mem {pre els : List (Int × List UInt8)} {x : Int × List UInt8} (hb : (badL els).2 = 0) (h : pre ++ [x] <+: els) : (scanF x.1 x.2).2 = 0 := by
 have a := bad_zero h hb
 have b : (badL pre).2 = 0 := bad_zero ⟨[x], rfl⟩ a
 rw [bad_app b, bad_one] at a
 split at a
 ·exact a
 ·omega
theorem pre_mem {α : Type} {pre els : List α} {x : α} (h : pre ++ [x] <+: els) : x ∈ els := by obtain ⟨l, rfl⟩ := h; simp
theorem lines_snoc {acc : List LineV} {pre : List (Int × List UInt8)} {x : Int × List UInt8} {y : LineV} (h : acc.map stripL = linesF pre) (hy : stripL y = (scanF x.1 x.2).1) : (acc ++ [y]).map stripL = linesF (pre ++ [x]) := by
 unfold linesF at h ⊢
 rw [List.map_append, List.map_append, h, List.map_cons, List.map_nil, hy]; rfl
end Go.FK
end

/- === PLref === -/
section
/- Plain laws of chapter 3's reference: its characters, its pieces, its cuts. -/
namespace Go.FK
open Go Go.RowKit
theorem uB {α : Type} {l : List α} {i : Nat} {x y : α} (h : l[i]? = some x) : (l.set i y)[i]? = some y := by
 obtain ⟨a, _⟩ := List.getElem?_eq_some_iff.1 h
 simp [a]
def encChar (x : Nat × Nat × Int × Bool) : List Value := [.int .i64 (x.1 : Nat), .int .i64 (x.2.1 : Nat), .int .i32 x.2.2.1, .bool x.2.2.2]
def rawC (x : Nat × Nat × Nat) : Nat × Nat × Int × Bool := (x.1, 0, (x.2.2 : Int), false)
def fulC (x : Nat × Nat × Nat) : Nat × Nat × Int × Bool := (x.1, x.2.1, (x.2.2 : Int), !wrongC x)
def chF (s : List UInt8) : List (Nat × Nat × Int × Bool) := (charsFrom s 0).map fulC
theorem chF_len (s : List UInt8) : (chF s).length = (charsFrom s 0).length := by unfold chF; rw [List.length_map]
theorem chF_at {s : List UInt8} {i : Nat} {x : Nat × Nat × Int × Bool} (h : (chF s)[i]? = some x) : ∃ c, (charsFrom s 0)[i]? = some c ∧ x = fulC c := by
 unfold chF at h
 rw [List.getElem?_map] at h
 cases hc : (charsFrom s 0)[i]? with
 | none => rw [hc] at h; cases h
 | some c => rw [hc] at h; cases h; exact ⟨c, rfl, rfl⟩
theorem charsN_next (s : List UInt8) : ∀ (n p i : Nat) (c : Nat × Nat × Nat), s.length - p ≤ n → (charsN s n p)[i]? = some c →
  c.1 + c.2.1 ≤ s.length ∧ 1 ≤ c.2.1 ∧ p ≤ c.1 ∧ c.2.2 ≤ 2147483647 ∧ (∀ d, (charsN s n p)[i + 1]? = some d → d.1 = c.1 + c.2.1) ∧ ((charsN s n p).length = i + 1 → c.1 + c.2.1 = s.length) := by
 intro n
 induction n with
 | zero => intro p i c _ h; simp [charsN] at h
 | succ n ih =>
  intro p i c hn h
  rw [charsN] at h ⊢
  by_cases hp : p < s.length
  ·rw [if_pos hp] at h ⊢
   have m := dec_pos s p
   have j := dec_fits s p hp
   have l := dec_le s p
   cases i with
   | zero =>
    simp at h; subst h
    refine ⟨j, m, Nat.le_refl _, l, ?_, ?_⟩
    ·intro d hd
     simp only [Nat.zero_add, List.getElem?_cons_succ] at hd
     cases n with
     | zero => simp [charsN] at hd
     | succ n =>
      rw [charsN] at hd
      split at hd
      ·simp at hd; subst hd; rfl
      ·simp at hd
    ·intro hl
     simp only [List.length_cons] at hl
     by_cases hq : p + (dec s p).2 < s.length
     ·cases n with
      | zero => omega
      | succ n => rw [charsN, if_pos hq] at hl; simp at hl
     ·simp only; omega
   | succ i =>
    simp only [List.getElem?_cons_succ] at h
    obtain ⟨a, b, e, f, g, k⟩ := ih _ i c (by omega) h
    refine ⟨a, b, by omega, f, ?_, ?_⟩
    ·intro d hd; simp only [List.getElem?_cons_succ] at hd; exact g d hd
    ·intro hl; simp only [List.length_cons] at hl; exact k (by omega)
  ·rw [if_neg hp] at h; simp at h
theorem chars_next {s : List UInt8} {i : Nat} {c : Nat × Nat × Nat} (h : (charsFrom s 0)[i]? = some c) :
  c.1 + c.2.1 ≤ s.length ∧ 1 ≤ c.2.1 ∧ c.2.2 ≤ 2147483647 ∧ (∀ d, (charsFrom s 0)[i + 1]? = some d → d.1 = c.1 + c.2.1) ∧ ((charsFrom s 0).length = i + 1 → c.1 + c.2.1 = s.length) := by
 obtain ⟨a, b, _, f, g, k⟩ := charsN_next s _ _ i c (Nat.le_refl _) h
 exact ⟨a, b, f, g, k⟩
theorem raw_step {s : List UInt8} {p : Nat} {acc : List (Nat × Nat × Int × Bool)} {c : Int} (h : p < s.length) (hc : c = ((dec s p).1 : Nat)) (hi : acc ++ (charsFrom s p).map rawC = (charsFrom s 0).map rawC) :
  (acc ++ [(p, 0, c, false)]) ++ (charsFrom s (p + (dec s p).2)).map rawC = (charsFrom s 0).map rawC := by
 rw [← hi, uE h, hc]; simp [rawC]
theorem raw_end {s : List UInt8} {p : Nat} {acc : List (Nat × Nat × Int × Bool)} (h : s.length ≤ p) (hi : acc ++ (charsFrom s p).map rawC = (charsFrom s 0).map rawC) : acc = ((charsFrom s 0).take 0).map fulC ++ ((charsFrom s 0).drop 0).map rawC := by
 rw [charsFrom_end h] at hi; simpa using hi
theorem mix_len {s : List UInt8} {i : Nat} {acc : List (Nat × Nat × Int × Bool)} (h : acc = ((charsFrom s 0).take i).map fulC ++ ((charsFrom s 0).drop i).map rawC) : acc.length = (charsFrom s 0).length := by
 rw [h]; simp; omega
theorem mix_at {s : List UInt8} {i j : Nat} {acc : List (Nat × Nat × Int × Bool)} {x : Nat × Nat × Int × Bool} (h : acc = ((charsFrom s 0).take i).map fulC ++ ((charsFrom s 0).drop i).map rawC) (hx : acc[j]? = some x) (hj : i ≤ j) :
  ∃ c, (charsFrom s 0)[j]? = some c ∧ x = rawC c ∧ x.1 = c.1 ∧ x.2.2.1 = (c.2.2 : Nat) := by
 have hlt : j < acc.length := (List.getElem?_eq_some_iff.1 hx).1
 rw [mix_len h] at hlt
 rw [h, List.getElem?_append_right (by simp; omega)] at hx
 rw [List.getElem?_map, List.getElem?_drop] at hx
 have e : i + (j - (((charsFrom s 0).take i).map fulC).length) = j := by simp; omega
 rw [e] at hx
 cases hc : (charsFrom s 0)[j]? with
 | none => rw [hc] at hx; cases hx
 | some c => rw [hc] at hx; cases hx; exact ⟨c, rfl, rfl, rfl, rfl⟩
theorem mix_set {s : List UInt8} {i : Nat} {acc : List (Nat × Nat × Int × Bool)} {c : Nat × Nat × Nat} {a b : Nat × Nat × Int × Bool} (h : acc = ((charsFrom s 0).take i).map fulC ++ ((charsFrom s 0).drop i).map rawC) (hc : (charsFrom s 0)[i]? = some c) (hb : b = fulC c) :
  (acc.set i a).set i b = ((charsFrom s 0).take (i + 1)).map fulC ++ ((charsFrom s 0).drop (i + 1)).map rawC := by
 have hlt : i < (charsFrom s 0).length := (List.getElem?_eq_some_iff.1 hc).1
 rw [List.set_set, h, xW hc, List.map_cons, hb]
 have e : (((charsFrom s 0).take i).map fulC).length = i := by simp; omega
 rw [List.set_append_right _ _ (by omega), e, Nat.sub_self, List.set_cons_zero, List.take_succ_eq_append_getElem hlt, (List.getElem?_eq_some_iff.1 hc).2]
 simp
theorem fulC_mk {c : Nat × Nat × Nat} {w : Nat} {r : Int} {b : Bool} (hw : w = c.2.1) (hr : r = (c.2.2 : Nat)) (hb : b = !wrongC c) : (c.1, w, r, b) = fulC c := by rw [hw, hr, hb]; rfl
theorem mix_set3 {s : List UInt8} {i e : Nat} {acc : List (Nat × Nat × Int × Bool)} {x a : Nat × Nat × Int × Bool} {b : Bool} (h : acc = ((charsFrom s 0).take i).map fulC ++ ((charsFrom s 0).drop i).map rawC) (hx : acc[i]? = some x)
  (he : (∃ y, acc[i + 1]? = some y ∧ e = y.1) ∨ (acc.length ≤ i + 1 ∧ e = s.length)) (hb : b = decide (x.2.2.1 ≠ 65533 ∨ e - x.1 = 3)) :
  (acc.set i a).set i (x.1, e - x.1, x.2.2.1, b) = ((charsFrom s 0).take (i + 1)).map fulC ++ ((charsFrom s 0).drop (i + 1)).map rawC := by
 obtain ⟨c, hc, _, g, f⟩ := mix_at h hx (Nat.le_refl _)
 obtain ⟨o, n, p, j, k⟩ := chars_next hc
 have hl := mix_len h
 have hlt : i < acc.length := (List.getElem?_eq_some_iff.1 hx).1
 have hw : e - x.1 = c.2.1 := by
  rcases he with ⟨y, hy, rfl⟩ | ⟨hy, rfl⟩
  ·obtain ⟨d, hd, _, q, _⟩ := mix_at h hy (Nat.le_succ _)
   have := j d hd
   omega
  ·have := k (by omega)
   omega
 refine mix_set h hc ?_
 rw [g]
 refine fulC_mk (by rw [← g]; exact hw) f ?_
 rw [hb, hw, f]
 unfold wrongC
 by_cases l : c.2.2 = 65533 <;> by_cases m : c.2.1 = 3 <;> simp [l, m] <;> omega
theorem mix_done {s : List UInt8} {i : Nat} {acc : List (Nat × Nat × Int × Bool)} (h : acc = ((charsFrom s 0).take i).map fulC ++ ((charsFrom s 0).drop i).map rawC) (hi : acc.length ≤ i) : acc = chF s := by
 have hl := mix_len h
 rw [h, List.take_of_length_le (by omega), List.drop_eq_nil_of_le (by omega)]; simp [chF]
theorem chF_range {s : List UInt8} {i : Nat} {x : Nat × Nat × Int × Bool} (h : (chF s)[i]? = some x) : -2147483648 ≤ x.2.2.1 ∧ x.2.2.1 ≤ 2147483647 := by
 obtain ⟨c, hc, rfl⟩ := chF_at h
 obtain ⟨_, _, a, _⟩ := chars_next hc
 simp only [fulC]; omega
theorem ck_end {s : List UInt8} {i : Nat} (h : (chF s).length ≤ i) (hi : chkL ((charsFrom s 0).drop i) i = chkF s) : (0, 0) = chkF s := by
 rw [chF_len] at h
 rw [← hi, List.drop_eq_nil_of_le h]; rfl
theorem ck_wide {s : List UInt8} {c : Nat × Nat × Nat} (hc : (charsFrom s 0)[4096]? = some c) (hi : chkL ((charsFrom s 0).drop 4096) 4096 = chkF s) : chkF s = (4096, 32) := by
 rw [← hi, xW hc]; rfl
theorem ck_wrong {s : List UInt8} {i : Nat} {c : Nat × Nat × Nat} (hc : (charsFrom s 0)[i]? = some c) (hn : i ≠ 4096) (hw : wrongC c = true) (hi : chkL ((charsFrom s 0).drop i) i = chkF s) : chkF s = (i, 30) := by
 rw [← hi, xW hc, chkL, if_neg hn, if_pos hw]
theorem ck_ctl {s : List UInt8} {i : Nat} {c : Nat × Nat × Nat} (hc : (charsFrom s 0)[i]? = some c) (hn : i ≠ 4096) (hw : wrongC c = false) (hx : (c.2.2 < 32 ∧ c.2.2 ≠ 9) ∨ c.2.2 = 127) (hi : chkL ((charsFrom s 0).drop i) i = chkF s) : chkF s = (i, 31) := by
 rw [← hi, xW hc, chkL, if_neg hn, hw, if_neg (by simp), if_pos (by simpa [ctlC] using hx)]
theorem ck_on {s : List UInt8} {i : Nat} {c : Nat × Nat × Nat} (hc : (charsFrom s 0)[i]? = some c) (hn : i ≠ 4096) (hw : wrongC c = false) (hx : ¬ ((c.2.2 < 32 ∧ c.2.2 ≠ 9) ∨ c.2.2 = 127)) (hi : chkL ((charsFrom s 0).drop i) i = chkF s) : chkL ((charsFrom s 0).drop (i + 1)) (i + 1) = chkF s := by
 rw [← hi, xW hc, chkL, if_neg hn, hw, if_neg (by simp), if_neg (by simpa [ctlC] using hx)]
theorem ck_wide2 {s : List UInt8} {i : Nat} (h : i < (chF s).length) (h4 : i = 4096) (hi : chkL ((charsFrom s 0).drop i) i = chkF s) : chkF s = (4096, 32) := by
 subst h4
 rw [chF_len] at h
 obtain ⟨c, hc⟩ := zX (charsFrom s 0) 4096 h
 exact ck_wide hc hi
theorem ck_wrongX {s : List UInt8} {i : Nat} {x : Nat × Nat × Int × Bool} (hx : (chF s)[i]? = some x) (hw : (!x.2.2.2) = true) (hn : i ≠ 4096) (hi : chkL ((charsFrom s 0).drop i) i = chkF s) : chkF s = (i, 30) := by
 obtain ⟨c, hc, rfl⟩ := chF_at hx
 exact ck_wrong hc hn (by simpa [fulC] using hw) hi
theorem ck_ctlX {s : List UInt8} {i : Nat} {x : Nat × Nat × Int × Bool} (hx : (chF s)[i]? = some x) (hw : (!x.2.2.2) = false) (hr : (x.2.2.1 < 32 ∧ x.2.2.1 ≠ 9) ∨ x.2.2.1 = 127) (hn : i ≠ 4096) (hi : chkL ((charsFrom s 0).drop i) i = chkF s) : chkF s = (i, 31) := by
 obtain ⟨c, hc, rfl⟩ := chF_at hx
 simp only [fulC] at hr
 exact ck_ctl hc hn (by simpa [fulC] using hw) (by omega) hi
theorem ck_onX {s : List UInt8} {i : Nat} {x : Nat × Nat × Int × Bool} (hx : (chF s)[i]? = some x) (hw : (!x.2.2.2) = false) (hr : ¬ ((x.2.2.1 < 32 ∧ x.2.2.1 ≠ 9) ∨ x.2.2.1 = 127)) (hn : i ≠ 4096) (hi : chkL ((charsFrom s 0).drop i) i = chkF s) : chkL ((charsFrom s 0).drop (i + 1)) (i + 1) = chkF s := by
 obtain ⟨c, hc, rfl⟩ := chF_at hx
 simp only [fulC] at hr
 exact ck_on hc hn (by simpa [fulC] using hw) (by omega) hi
def encPcN (x : Nat × Nat × Nat) : List Value := [.int .i64 (x.1 : Nat), .int .i64 (x.2.1 : Nat), .int .i64 (x.2.2 : Nat)]
def keepP (p : Nat × Nat × Nat) : Bool := decide (p.1 < p.2.2)
def pcsR (s : List UInt8) : List (Nat × Nat × Nat) := (pcsFrom s (markN s) (markN s)).filter keepP
theorem pr_nl {s : List UInt8} {a i to : Nat} {c : UInt8} {acc : List (Nat × Nat × Nat)} (ha : a ≤ i) (hc : s[i]? = some c) (h : c.toNat = 10) (ht : to = crN s a i) (hi : acc ++ (pcsFrom s a i).filter keepP = pcsR s) :
  (acc ++ [(a, to, i + 1)]) ++ (pcsFrom s (i + 1) (i + 1)).filter keepP = pcsR s := by
 rw [← hi, pcs_nl hc h, List.filter_cons, if_pos (by simp [keepP]; omega), ht]; simp
theorem pr_on {s : List UInt8} {a i : Nat} {c : UInt8} {acc : List (Nat × Nat × Nat)} (hc : s[i]? = some c) (h : c.toNat ≠ 10) (hi : acc ++ (pcsFrom s a i).filter keepP = pcsR s) : acc ++ (pcsFrom s a (i + 1)).filter keepP = pcsR s := by
 rw [← hi, pcs_on hc h]
theorem pr_last {s : List UInt8} {a i : Nat} {acc : List (Nat × Nat × Nat)} (h : s.length ≤ i) (ha : a < s.length) (hi : acc ++ (pcsFrom s a i).filter keepP = pcsR s) : acc ++ [(a, s.length, s.length)] = pcsR s := by
 rw [← hi, pcs_end h, List.filter_cons, if_pos (by simp [keepP]; omega)]; simp
theorem pr_none {s : List UInt8} {a i : Nat} {acc : List (Nat × Nat × Nat)} (h : s.length ≤ i) (ha : s.length ≤ a) (hi : acc ++ (pcsFrom s a i).filter keepP = pcsR s) : acc = pcsR s := by
 rw [← hi, pcs_end h, List.filter_cons, if_neg (by simp [keepP]; omega)]; simp
theorem cr_one {s : List UInt8} {a i : Nat} {c : UInt8} (h : a < i) (hc : s[i - 1]? = some c) (h13 : c.toNat = 13) : i - 1 = crN s a i := by
 unfold crN; rw [if_pos ⟨h, by rw [getD_some hc]; exact UInt8.toNat_inj.1 h13⟩]
theorem cr_not {s : List UInt8} {a i : Nat} {c : UInt8} (hc : s[i - 1]? = some c) (h13 : c.toNat ≠ 13) : i = crN s a i := by
 unfold crN; rw [if_neg]; rintro ⟨_, h⟩; rw [getD_some hc] at h; exact h13 (by rw [h]; rfl)
theorem cr_low {s : List UInt8} {a i : Nat} (h : i ≤ a) : i = crN s a i := by unfold crN; rw [if_neg (by omega)]
theorem mark_yes {s : List UInt8} {a b c : UInt8} (h : 3 ≤ s.length) (h0 : s[0]? = some a) (h1 : s[1]? = some b) (h2 : s[2]? = some c) (e0 : a.toNat = 239) (e1 : b.toNat = 187) (e2 : c.toNat = 191) : 3 = markN s := by
 obtain rfl : a = 239 := UInt8.toNat_inj.1 e0
 obtain rfl : b = 187 := UInt8.toNat_inj.1 e1
 obtain rfl : c = 191 := UInt8.toNat_inj.1 e2
 unfold markN hpB markT
 rcases s with _ | ⟨x, _ | ⟨y, _ | ⟨z, l⟩⟩⟩ <;> simp_all [List.isPrefixOf]
theorem mark_no {s : List UInt8} (h : s.length < 3 ∨ ∃ i c, i < 3 ∧ s[i]? = some c ∧ c.toNat ≠ [239, 187, 191].getD i 0) : 0 = markN s := by
 unfold markN
 rw [if_neg]
 intro hp
 have hl := hp_len (p := markT) hp
 simp only [markT, List.length_cons, List.length_nil] at hl
 rcases h with h | ⟨i, c, d, a, b⟩
 ·omega
 ·unfold hpB markT at hp
  rcases s with _ | ⟨x, _ | ⟨y, _ | ⟨z, l⟩⟩⟩
  ·simp [List.isPrefixOf] at hp
  ·simp [List.isPrefixOf] at hp
  ·simp [List.isPrefixOf] at hp
  ·simp only [List.isPrefixOf, Bool.and_true, Bool.and_eq_true, beq_iff_eq] at hp
   obtain ⟨rfl, rfl, rfl⟩ := hp
   rcases (by omega : i = 0 ∨ i = 1 ∨ i = 2) with rfl | rfl | rfl <;> simp at a <;> subst a <;> exact b rfl
theorem trm_first {a : List UInt8} (h : a = [] ∨ ∃ c, a[0]? = some c ∧ ¬ (c.toNat = 32 ∨ c.toNat = 9)) : a.take (a.length - 1) = [] ∨ ∃ c, (a.take (a.length - 1))[0]? = some c ∧ ¬ (c.toNat = 32 ∨ c.toNat = 9) := by
 rcases h with rfl | ⟨c, hc, hb⟩
 ·exact .inl rfl
 ·by_cases b : a.length - 1 = 0
  ·left; rw [b]; rfl
  ·right; exact ⟨c, by rw [List.getElem?_take, if_pos (by omega)]; exact hc, hb⟩
theorem qR {s : List UInt8} {i : Nat} {c : UInt8} (hc : s[i]? = some c) (hr : (65 ≤ c.toNat ∧ c.toNat ≤ 90) ∨ (97 ≤ c.toNat ∧ c.toNat ≤ 122) ∨ (48 ≤ c.toNat ∧ c.toNat ≤ 57) ∨ c.toNat = 95 ∨ c.toNat = 45)
  (hi : (s.drop i).all nmB = s.all nmB) : (s.drop (i + 1)).all nmB = s.all nmB := by
 rw [← hi, xW hc, List.all_cons]
 have : nmB c = true := by simpa [nmB] using hr
 rw [this]; simp
theorem nmb_off {s : List UInt8} {i : Nat} {c : UInt8} (hc : s[i]? = some c) (hr : ¬ ((65 ≤ c.toNat ∧ c.toNat ≤ 90) ∨ (97 ≤ c.toNat ∧ c.toNat ≤ 122) ∨ (48 ≤ c.toNat ∧ c.toNat ≤ 57) ∨ c.toNat = 95 ∨ c.toNat = 45))
  (hi : (s.drop i).all nmB = s.all nmB) : nameF s = false := by
 have : nmB c = false := by simpa [nmB] using hr
 unfold nameF
 rw [← hi, xW hc, List.all_cons, this]; rfl
theorem hp_take {s p : List UInt8} (h : s.take p.length = p) : hpB s p = true := by
 unfold hpB; rw [List.isPrefixOf_iff_prefix, ← h]; exact List.take_prefix _ _
theorem hp_not {s p : List UInt8} (h : s.length < p.length ∨ s.take p.length ≠ p) : hpB s p = false := by
 cases hb : hpB s p with
 | false => rfl
 | true =>
  have a := List.isPrefixOf_iff_prefix.1 hb
  rcases h with h | h
  ·have := a.length_le; omega
  ·exact absurd (List.prefix_iff_eq_take.1 a).symm h
theorem hp_one {s : List UInt8} {c : UInt8} (hc : s[0]? = some c) (h : c.toNat = 64) : hpB s [64] = true := by
  obtain rfl : c = 64 := UInt8.toNat_inj.1 h
  cases s with
  | nil => simp at hc
  | cons x l => obtain rfl : x = 64 := by simpa using hc
                simp [hpB, List.isPrefixOf]
theorem hp_one_not {s : List UInt8} {c : UInt8} (hc : s[0]? = some c) (h : c.toNat ≠ 64) : hpB s [64] = false := by
 cases s with
 | nil => simp at hc
 | cons x l =>
  obtain rfl : x = c := by simpa using hc
  have : x ≠ 64 := fun e => h (by rw [e]; rfl)
  simp [hpB, List.isPrefixOf]; exact fun e => this e.symm
theorem ordF_unt (s : List UInt8) : ordF s = untF 58 ((headF s).drop 1) := cut_unt 58 _
theorem Zg {no : Int} {s : List UInt8} (h : (chkF s).2 = 0) (h1 : headF s = []) (h2 : hpB (noteF s) missT = false) : scanF no s = ((no, 0, [], [], noteF s), 0) := by
 rw [uY h h1 h2, cut_empty h1]
theorem scanR_data {no : Int} {s : List UInt8} (h : (chkF s).2 = 0) (h1 : headF s ≠ []) (h2 : hpB (headF s) [64] = false) : scanF no s = ((no, 1, [], fieldsF (headF s), noteF s), 0) := by
 rw [scan_data h h1 h2, cutF_head]
theorem scanR_order {no : Int} {s : List UInt8} (h : (chkF s).2 = 0) (h2 : hpB (headF s) [64] = true) (h3 : (untF 58 ((headF s).drop 1)).2.2 = true) (h4 : nameF (untF 58 ((headF s).drop 1)).1 = true) :
  scanF no s = ((no, 2, (untF 58 ((headF s).drop 1)).1, fieldsF (untF 58 ((headF s).drop 1)).2.1, noteF s), 0) := by
 rw [← ordF_unt] at *; exact Za h h2 h3 h4
theorem vS {no : Int} {s : List UInt8} (h : (chkF s).2 = 0) (h2 : hpB (headF s) [64] = true) (h3 : (untF 58 ((headF s).drop 1)).2.2 = false ∨ nameF (untF 58 ((headF s).drop 1)).1 = false) : scanF no s = (zeroL, 33) := by
 rw [← ordF_unt] at *; exact xZ h h2 h3
theorem headF_len (s : List UInt8) : (headF s).length ≤ s.length := Nat.le_trans (vK _) (vO s [35]).1
theorem noteF_len (s : List UInt8) : (noteF s).length ≤ s.length := Nat.le_trans (vK _) (vO s [35]).2
end Go.FK
end

/- === PLlaw === -/
section
/- Plain laws for chapter 3's statements. -/
namespace Go.FK
open Go Go.RowKit
theorem splF_len (b : UInt8) : ∀ l : List UInt8, (splF b l).length ≤ l.length + 1
 | [] => by simp [splF]
 | c :: l => by
  have ih := splF_len b l
  rw [splF]
  split
  ·simp; omega
  ·split <;> simp_all <;> omega
theorem fields_len (s : List UInt8) : (fieldsF s).length ≤ s.length + 1 := by
 unfold fieldsF
 split
 ·simp
 ·rw [List.length_map]; exact splF_len 59 s
theorem fields_lenC (s : List UInt8) : (cutF s).1.length ≤ s.length + 1 := by
 have b := fields_len (Lib.cut s [35]).1
 have a := (vO s [35]).1
 show (fieldsF (Lib.cut s [35]).1).length ≤ _
 omega
theorem scan_flen (no : Int) (s : List UInt8) : (scanF no s).1.2.2.2.1.length ≤ s.length + 1 := by
 have g := fields_lenC s
 have c := fields_lenC ((noteF s).drop 9)
 have f := noteF_len s
 have e := fields_len (ordF s).2.1
 have a := (vO ((headF s).drop 1) [58]).2
 have d := headF_len s
 rw [List.length_drop] at c a
 have b : (ordF s).2.1.length ≤ (headF s).length - 1 := a
 unfold scanF
 repeat' split
 all_goals simp only [zeroL, List.length_nil]
 all_goals omega
end Go.FK
end

/- === PLplc === -/
section
/- Plain laws of chapter 3: places, lines and columns. -/
namespace Go.FK
open Go Go.RowKit
section ops
variable {r : Option Nat} {P : Program} {n : Nat} {Q : Post} {s : Fm} {w : World} {ops : Array Oper} {rest : List Oper}
variable {d : Option Tmp} {ty : TypeId} {pos : String} {af : Array Edge}
end ops
def endsF (s : List UInt8) : List (Nat × Nat × Nat) := pcsFrom s (markN s) (markN s)
theorem pcsI_ends (s : List UInt8) : pcsI s = (endsF s).map toI := rfl
theorem pcsR_ends (s : List UInt8) : pcsR s = (endsF s).filter keepP := rfl
theorem pcsN_shape (s : List UInt8) : ∀ (n a i : Nat), s.length - i = n → a ≤ i → i ≤ s.length → ∃ init b, pcsN s n a i = init ++ [(b, s.length, s.length)] ∧ (∀ p ∈ init, keepP p = true ∧ p.2.1 < p.2.2) ∧ (init = [] → b = a) ∧ (∀ p, init.getLast? = some p → p.2.2 = b) ∧ b ≤ s.length
 | 0, a, i, h, h1, h2 => ⟨[], a, rfl, by simp, fun _ => rfl, by simp, by omega⟩
 | n + 1, a, i, h, h1, h2 => by
  rw [pcsN]
  split
  ·obtain ⟨init, b, e, c, f, d, g⟩ := pcsN_shape s n (i + 1) (i + 1) (by omega) (Nat.le_refl _) (by omega)
   have hc := crN_le s a i
   refine ⟨(a, crN s a i, i + 1) :: init, b, by rw [e]; rfl, ?_, by simp, ?_, g⟩
   ·intro p hp
    rcases List.mem_cons.1 hp with rfl | hp
    ·exact ⟨by simp [keepP]; omega, by simp only; omega⟩
    ·exact c p hp
   ·intro p hp
    cases init with
    | nil => simp at hp; subst hp; exact (f rfl).symm
    | cons q l => rw [List.getLast?_cons_cons] at hp; exact d p hp
  ·exact pcsN_shape s n a (i + 1) (by omega) (by omega) (by omega)
theorem ends_shape (s : List UInt8) : ∃ init b, endsF s = init ++ [(b, s.length, s.length)] ∧ (∀ p ∈ init, keepP p = true ∧ p.2.1 < p.2.2) ∧ (init = [] → b = markN s) ∧ (∀ p, init.getLast? = some p → p.2.2 = b) ∧ b ≤ s.length :=
 pcsN_shape s _ _ _ rfl (Nat.le_refl _) (mark_len s)
theorem filter_all {α : Type} {p : α → Bool} {l : List α} (h : ∀ x ∈ l, p x = true) : l.filter p = l := List.filter_eq_self.2 h
theorem ends_ok {s : List UInt8} {i : Nat} {p : Nat × Nat × Nat} (h : (endsF s)[i]? = some p) : p.1 ≤ p.2.1 ∧ p.2.1 ≤ p.2.2 ∧ p.2.2 ≤ s.length :=
 pcs_okN s _ _ _ rfl (Nat.le_refl _) (mark_len s) p (List.mem_of_getElem? h)
theorem ends_len (s : List UInt8) : 1 ≤ (endsF s).length ∧ (endsF s).length ≤ s.length + 1 := by
 have := pcsI_len s
 rw [pcsI_ends, List.length_map] at this; exact this
theorem pcsR_len (s : List UInt8) : (pcsR s).length ≤ s.length + 1 := by
 rw [pcsR_ends]; exact Nat.le_trans (List.length_filter_le _ _) (ends_len s).2
theorem pcsR_ok {s : List UInt8} {i : Nat} {p : Nat × Nat × Nat} (h : (pcsR s)[i]? = some p) : p.1 ≤ p.2.1 ∧ p.2.1 ≤ p.2.2 ∧ p.2.2 ≤ s.length := by
 have hm := List.mem_of_getElem? h
 rw [pcsR_ends] at hm
 obtain ⟨i, hi⟩ := List.mem_iff_getElem?.1 (List.mem_filter.1 hm).1
 exact ends_ok hi
def textOf (s : List UInt8) (p : Nat × Nat × Nat) : List UInt8 := (s.take p.2.1).drop p.1
def placeF (s : List UInt8) (line col : Int) : Int × Int :=
  if line < 1 ∨ ((endsF s).length : Int) < line ∨ col < 1 then (0, 2) else
  match (endsF s)[(line - 1).toNat]? with
  | none => (0, 2)
  | some p => match (charsFrom (textOf s p) 0)[(col - 1).toNat]? with
    | some c => (((p.1 + c.1 : Nat) : Int), 0)
    | none => if col = ((charsFrom (textOf s p) 0).length : Int) + 1 then ((p.2.1 : Int), 0) else (0, 2)
def fromAt (s : List UInt8) (i : Nat) : Nat := ((endsF s).getD i (0, 0, 0)).1
def lixF (s : List UInt8) (b : Int) : Nat → Nat
  | 0 => 0
  | i + 1 => if i = 0 ∨ (fromAt s i : Int) ≤ b then i else lixF s b i
def cntE (x : Int) (l : List (Nat × Nat × Nat)) : Nat := (l.filter fun c => decide (((c.1 + c.2.1 : Nat) : Int) ≤ x)).length
def cntA (x : Int) (l : List (Nat × Nat × Nat)) : Nat := (l.filter fun c => decide (0 < c.1 ∧ (c.1 : Int) ≤ x)).length
def whereF (s : List UInt8) (b : Int) : Int × Int :=
  if b < 0 ∨ (s.length : Int) < b then (0, 0) else
  (((lixF s b (endsF s).length + 1 : Nat) : Int), ((1 + cntE (b - fromAt s (lixF s b (endsF s).length)) (charsFrom (textOf s ((endsF s).getD (lixF s b (endsF s).length) (0, 0, 0))) 0) : Nat) : Int))
end Go.FK
end

/- === PLeach === -/
section
/- Plain laws of chapter 3: what is told of a text, by the pieces of the reference. -/
namespace Go.FK
open Go Go.RowKit
def encTold (x : Int × List UInt8) : List Value := [.int .i64 x.1, S x.2]
def allF (s : List UInt8) (few : Int) : List (Int × List UInt8) := if 1 ≤ few ∧ few < ((toldF s).length : Int) then (toldF s).take few.toNat else toldF s
def toldR (s : List UInt8) : Nat → List (Nat × Nat × Nat) → List (Int × List UInt8)
  | _, [] => []
  | k, p :: l => (((k + 1 : Nat) : Int), (s.take p.2.1).drop p.1) :: toldR s (k + 1) l
theorem toldL_app (s : List UInt8) : ∀ (l m : List (Nat × Nat × Nat)) (k : Nat), (∀ p ∈ l, keepP p = true) → toldL s k ((l ++ m).map toI) = toldR s k l ++ toldL s (k + l.length) (m.map toI)
 | [], m, k, _ => by simp [toldR]
 | p :: l, m, k, h => by
  have hp := h p List.mem_cons_self
  simp only [keepP, decide_eq_true_eq] at hp
  rw [List.cons_append, List.map_cons, toldL, if_neg (by simp only [toI]; omega), toldL_app s l m (k + 1) (fun q hq => h q (List.mem_cons_of_mem _ hq)), toldR]
  have e : k + 1 + l.length = k + (p :: l).length := by rw [List.length_cons]; omega
  rw [e]
  simp [toI]
theorem told_ref (s : List UInt8) : toldF s = toldR s 0 (pcsR s) := by
 obtain ⟨init, b, e, a, h, g, i⟩ := ends_shape s
 have hf : init.filter keepP = init := filter_all fun x hx => (a x hx).1
 have key : pcsR s = init ++ if keepP (b, s.length, s.length) = true then [(b, s.length, s.length)] else [] := by rw [pcsR_ends, e, List.filter_append, hf, List.filter_cons, List.filter_nil]
 unfold toldF
 rw [pcsI_ends, e, toldL_app s init _ 0 (fun p hp => (a p hp).1), key]
 by_cases hk : keepP (b, s.length, s.length) = true
 ·rw [if_pos hk]
  have f := toldL_app s [(b, s.length, s.length)] [] (0 + init.length) (fun p hp => by obtain rfl := List.mem_singleton.1 hp; exact hk)
  have c := toldL_app s (init ++ [(b, s.length, s.length)]) [] 0 (fun p hp => by
   rcases List.mem_append.1 hp with hp | hp
   ·exact (a p hp).1
   ·obtain rfl := List.mem_singleton.1 hp; exact hk)
  have d := toldL_app s init [(b, s.length, s.length)] 0 (fun p hp => (a p hp).1)
  rw [List.append_nil] at c
  rw [← d, c]; simp [toldL]
 ·rw [if_neg hk, List.append_nil]
  simp only [keepP, decide_eq_true_eq] at hk
  have : b = s.length := by omega
  subst this
  simp [toI, toldL]
theorem toldR_len (s : List UInt8) : ∀ (l : List (Nat × Nat × Nat)) (k : Nat), (toldR s k l).length = l.length
 | [], k => rfl
 | p :: l, k => by rw [toldR, List.length_cons, toldR_len s l (k + 1), List.length_cons]
theorem toldR_at (s : List UInt8) : ∀ (l : List (Nat × Nat × Nat)) (k i : Nat) (p : Nat × Nat × Nat), l[i]? = some p → (toldR s k l)[i]? = some (((k + i + 1 : Nat) : Int), (s.take p.2.1).drop p.1)
 | [], k, i, p, h => by simp at h
 | q :: l, k, 0, p, h => by simp at h; subst h; rfl
 | q :: l, k, i + 1, p, h => by
  rw [toldR, List.getElem?_cons_succ, toldR_at s l (k + 1) i p (by simpa using h)]
  have e : k + 1 + i + 1 = k + (i + 1) + 1 := by omega
  rw [e]
theorem told_lenR (s : List UInt8) : (toldF s).length = (pcsR s).length := by rw [told_ref, toldR_len]
def okPc (s : List UInt8) (p : List (Nat × Nat × Nat)) : Prop := ∀ x ∈ p, x.1 ≤ x.2.1 ∧ x.2.1 ≤ s.length
end Go.FK
end

/- === PLrds === -/
section
/- Plain laws of chapter 3: the reference's lines, one by one; lists of lines held against each other. -/
namespace Go.FK
open Go Go.RowKit
theorem told_piece {s : List UInt8} {k : Nat} {p : Nat × Nat × Nat} (hp : (pcsR s)[k]? = some p) : (toldF s)[k]? = some (((k + 1 : Nat) : Int), (s.take p.2.1).drop p.1) := by
 rw [told_ref]
 have := toldR_at s (pcsR s) 0 k p hp
 rw [Nat.zero_add] at this; exact this
theorem take_at {α : Type} {l : List α} {k : Nat} {x : α} (h : l[k]? = some x) : l.take (k + 1) = l.take k ++ [x] := by
 obtain ⟨a, rfl⟩ := List.getElem?_eq_some_iff.1 h
 exact List.take_succ_eq_append_getElem a
theorem take_pre {α : Type} (l : List α) (k : Nat) : l.take k <+: l := ⟨l.drop k, List.take_append_drop k l⟩
theorem ok_at {s : List UInt8} {k : Nat} {p : Nat × Nat × Nat} (hok : (badL (toldF s)).2 = 0) (hp : (pcsR s)[k]? = some p) : (scanF ((k + 1 : Nat) : Int) ((s.take p.2.1).drop p.1)).2 = 0 := by
 have h := take_at (told_piece hp)
 have := take_pre (toldF s) (k + 1)
 rw [h] at this
 exact bad_mem hok this
theorem lines_at {s : List UInt8} {k : Nat} {p : Nat × Nat × Nat} {acc : List LineV} {y : LineV} (hp : (pcsR s)[k]? = some p) (h : acc.map stripL = linesF ((toldF s).take k)) (hy : stripL y = (scanF ((k + 1 : Nat) : Int) ((s.take p.2.1).drop p.1)).1) : (acc ++ [y]).map stripL = linesF ((toldF s).take (k + 1)) := by
 rw [take_at (told_piece hp)]; exact lines_snoc h hy
theorem bad_on {s : List UInt8} {k : Nat} {p : Nat × Nat × Nat} (hp : (pcsR s)[k]? = some p) (h : (badL ((toldF s).take k)).2 = 0) (hy : (scanF ((k + 1 : Nat) : Int) ((s.take p.2.1).drop p.1)).2 = 0) : (badL ((toldF s).take (k + 1))).2 = 0 := by
 rw [take_at (told_piece hp)]; exact bad_snoc_ok h hy
theorem bad_here {s : List UInt8} {k : Nat} {p : Nat × Nat × Nat} (hp : (pcsR s)[k]? = some p) (h : (badL ((toldF s).take k)).2 = 0) (hy : (scanF ((k + 1 : Nat) : Int) ((s.take p.2.1).drop p.1)).2 ≠ 0) : badL (toldF s) = (((k + 1 : Nat) : Int), (scanF ((k + 1 : Nat) : Int) ((s.take p.2.1).drop p.1)).2) := by
 have a := bad_snoc (x := (((k + 1 : Nat) : Int), (s.take p.2.1).drop p.1)) h hy
 rw [← take_at (told_piece hp)] at a
 rw [bad_pre (take_pre (toldF s) (k + 1)) (by rw [a]; exact hy), a]
theorem told_take {s : List UInt8} {k : Nat} (h : (pcsR s).length ≤ k) : (toldF s).take k = toldF s := List.take_of_length_le (by rw [told_lenR]; exact h)
theorem lines_len {l : List LineV} {k : List (Int × List UInt8)} (h : l.map stripL = linesF k) : l.length = k.length := by
 have := congrArg List.length h
 rw [List.length_map] at this
 unfold linesF at this
 rw [List.length_map] at this; exact this
open Classical in
noncomputable def eqLs (a b : List LineV) : Bool := decide (a.map stripL = b.map stripL)
theorem fs_len {s : List UInt8} {l : List LineV} (h : l.map stripL = linesF (toldF s)) (hs : s.length ≤ 1073741823) : ∀ x ∈ l, x.fs.length ≤ 1073741824 := by
 intro x hx
 have b : stripL x ∈ linesF (toldF s) := by rw [← h]; exact List.mem_map_of_mem hx
 unfold linesF at b
 obtain ⟨y, hy, e⟩ := List.mem_map.1 b
 have a := scan_flen y.1 y.2
 rw [e] at a
 have d := told_short hy
 have c : (stripL x).2.2.2.1 = x.fs := rfl
 rw [c] at a
 omega
def NRd (w : World) (v : Value) (xs : List LineV) : Prop := Rd w encLine v xs ∧ ∀ x ∈ xs, Rd w encStr x.v x.fs
section
variable {F : Nat} {w w' : World} {B E k i : Nat} {enc : LineV → List Value} {v v' q : Value} {xs ys : List LineV}
theorem NRd.below (h : NRd w v xs) (hb : Below w.heap.size w w') : NRd w' v xs := ⟨h.1.below hb, fun x hx => (h.2 x hx).below hb⟩
theorem NRd.inner {x : LineV} (h : NRd w v xs) (hx : x ∈ xs) : Rd w encStr x.v x.fs := h.2 x hx
theorem NRd.nil (w : World) : NRd w (.slice none 0 0) [] := ⟨Rd.nil _ _, fun _ h => by cases h⟩
def ND (xs : List LineV) : Prop := ∀ (i j : Nat) (x y : LineV) (g : Nat), xs[i]? = some x → xs[j]? = some y → i ≠ j → x.v.ownBlock = some g → y.v.ownBlock ≠ some g
def SRow (F i : Nat) (w : World) (B E k : Nat) (enc : LineV → List Value) (v : Value) (xs : List LineV) : Prop := Row w B E k enc v xs ∧ (∀ (j : Nat) (x : LineV), i ≤ j → xs[j]? = some x → Row w B F 1 encStr x.v x.fs) ∧ ND xs
theorem SRow.below (h : SRow F i w B E k enc v xs) (hb : Below w.heap.size w w') : SRow F i w' B E k enc v xs := ⟨h.1.below hb, fun j x hj hx => (h.2.1 j x hj hx).below hb, h.2.2⟩
theorem SRow.rd (h : SRow F i w B E k enc v xs) : Rd w enc v xs := h.1.rd
theorem SRow.shape (h : SRow F i w B E k enc v xs) : SliceOk v xs.length := Row.shape h.1
end
end Go.FK
end

/- === FKq === -/
section
/- FKq: arguments of plain data, opened: structs, slices of plain elements, lines. My own text. -/
namespace Go.FK
open Go Go.RowKit Go.ChangeShapes Go.WideShapes
def CapOk (v : Value) : Prop := ∀ a n c, v = .slice a n c → n ≤ c
structure Flat (P : Program) (t : TypeId) (k : Nat) {α : Type} (enc : α → List Value) (dat : (H : Type) → α → DataW H) (good : α → Prop) : Prop where
  len : ∀ a, (enc a).length = k
  size : P.cellsOf t = k
  dec : ∀ {H : Type} {en : TypeId × Value → H} {w : World} {base : Nat} {spare : Nat → Bool} {held : Bool} {n : Nat} {cs : List Value} {x : DataW H × List MemPlace}, DataW.trod en P w base spare held n t cs = some x → ∃ a, cs = enc a ∧ x = (dat H a, []) ∧ good a
section
variable {P : Program} {t : TypeId}
variable {H : Type} {en : TypeId × Value → H} {w : World} {base n : Nat} {spare : Nat → Bool} {held : Bool} {cs : List Value} {x : DataW H × List MemPlace}
end
end Go.FK
end

/- === FKv === -/
section
/- FKv: scopes with jumps, characters as texts, contracts of the library's calls on lines. My own text. -/
namespace Go.FK
open Go Go.RowKit
def jmpQ (J : Nat → Fm → World → Prop) (Q : Post) : Post
  | .goto l, s, w => J l s w
  | e, s, w => Q e s w
section
variable {r : Option Nat} {P : Program} {n : Nat} {Q : Post} {s : Fm} {w : World}
theorem jmpQ_ret {J : Nat → Fm → World → Prop} (h : Q .ret s w) : jmpQ J Q .ret s w := h
theorem jmpQ_goto {J : Nat → Fm → World → Prop} {l : Nat} (h : J l s w) : jmpQ J Q (.goto l) s w := h
theorem vM {b : Frame} {a : Act} {k : List Item} {cs : List Frame} {P : Program} {c : Code} {w : World} : step P (lone (b.atR a (.code (.scope c) :: k)) cs w) = .next (lone (b.atR a (.code c :: .inScope c :: k)) cs w) :=
 step_lone_go (by simp [stepG, stepG.exec, Frame.atR])
theorem stepR_inScope' {b : Frame} {a : Act} {k : List Item} {cs : List Frame} {P : Program} {c : Code} {w : World} : step P (lone (b.atR a (.inScope c :: k)) cs w) = .next (lone (b.atR a k) cs w) :=
 step_lone_go (by simp [stepG, stepG.exec, Frame.atR])
theorem W_scope {c : Code} (I : Nat → Nat → Fm → World → Prop) (first : W r P n c (jmpQ (fun l s w => ∃ m, I l m s w) Q) s w)
  (pass : ∀ l m s w, I l m s w → ∃ rest, findLabel c l = some rest ∧ W r P n rest (jmpQ (fun l' s' w' => ∃ m', m' < m ∧ I l' m' s' w') Q) s w) : W r P n (.scope c) Q s w := by
 rw [W_iff]
 intro b k cs hro hb hr
 have key : ∀ m l s w, I l m s w → ∃ rest, findLabel c l = some rest ∧ ∃ e a' w', upQ n Q e a' w' ∧ ArrivesIn (Machine.fenced P (Fw r)) P (lone (b.atR (s.act n) (.code rest :: .inScope c :: k)) cs w) b k cs e a' w' := by
  intro m
  induction m using Nat.strongRecOn with
  | _ m ih =>
   intro l s w hI
   obtain ⟨rest, hf, hW⟩ := pass l m s w hI
   refine ⟨rest, hf, ?_⟩
   obtain ⟨e, a₁, w₁, ⟨s₁, rfl, hq⟩, harr⟩ := (W_iff.1 hW) b (.inScope c :: k) cs hro hb hr
   cases e with
   | normal => exact ⟨.normal, _, w₁, ⟨s₁, rfl, hq⟩, StepsIn.trans harr (.one (fenced_calm hb hr rfl) stepR_inScope')⟩
   | goto l' =>
    obtain ⟨m', hlt, hI'⟩ := hq
    obtain ⟨rest', hf', e₂, a₂, w₂, hq₂, harr₂⟩ := ih m' hlt l' s₁ w₁ hI'
    have hg : gotoIn l' (.inScope c :: k) = some (.code rest' :: .inScope c :: k) := by simp [gotoIn, hf']
    exact ⟨e₂, a₂, w₂, hq₂, .of_steps (harr.1 _ hg) harr₂⟩
   | exit id =>
    have hx : exitTo id (.inScope c :: k) = exitTo id k := by simp [exitTo]
    exact ⟨_, _, w₁, ⟨s₁, rfl, hq⟩, fun k' hk => harr.1 k' (by rw [hx]; exact hk), fun hr' hk => harr.2 hr' (by rw [hx]; exact hk)⟩
   | ret => exact ⟨_, _, w₁, ⟨s₁, rfl, hq⟩, harr⟩
   | panic ch => exact ⟨_, _, w₁, ⟨s₁, rfl, hq⟩, harr⟩
   | outgrown => exact ⟨_, _, w₁, ⟨s₁, rfl, hq⟩, harr⟩
 obtain ⟨e, a₁, w₁, ⟨s₁, rfl, hq⟩, harr⟩ := (W_iff.1 first) b (.inScope c :: k) cs hro hb hr
 have a : (lone (b.atR (s.act n) (.code (.scope c) :: k)) cs w).fenced P (Fw r) := fenced_calm hb hr rfl
 cases e with
 | normal => exact ⟨.normal, _, w₁, ⟨s₁, rfl, hq⟩, .head a vM (StepsIn.trans harr (.one (fenced_calm hb hr rfl) stepR_inScope'))⟩
 | goto l' =>
  obtain ⟨m', hI'⟩ := hq
  obtain ⟨rest', hf', e₂, a₂, w₂, hq₂, harr₂⟩ := key m' l' s₁ w₁ hI'
  have hg : gotoIn l' (.inScope c :: k) = some (.code rest' :: .inScope c :: k) := by simp [gotoIn, hf']
  exact ⟨e₂, a₂, w₂, hq₂, .of_steps (.head a vM (harr.1 _ hg)) harr₂⟩
 | exit id =>
  have hx : exitTo id (.inScope c :: k) = exitTo id k := by simp [exitTo]
  exact ⟨_, _, w₁, ⟨s₁, rfl, hq⟩, fun k' hk => .head a vM (harr.1 k' (by rw [hx]; exact hk)),
   fun hr' hk => let ⟨k₁, h1, h2⟩ := harr.2 hr' (by rw [hx]; exact hk); ⟨k₁, h1, .head a vM h2⟩⟩
 | ret => exact ⟨_, _, w₁, ⟨s₁, rfl, hq⟩, .of_steps (.one a vM) harr⟩
 | panic ch => exact ⟨_, _, w₁, ⟨s₁, rfl, hq⟩, .of_steps (.one a vM) harr⟩
 | outgrown => exact ⟨_, _, w₁, ⟨s₁, rfl, hq⟩, .of_steps (.one a vM) harr⟩
end
section ops
variable {r : Option Nat} {P : Program} {n : Nat} {Q : Post} {s : Fm} {w : World} {ops : Array Oper} {rest : List Oper}
variable {d : Option Tmp} {ty : TypeId} {pos : String} {af : Array Edge}
theorem L_runeStr {a b : Nat} {X : Operand} (x : Int) (hx : s.ev n X = .int .i32 x) (ha : P.underlying a = some (.int .i32)) (hb : P.underlying b = some .string)
  (h : L r P n ops Q rest (s.put d (S (encL [x]))) w) : L r P n ops Q (⟨d, .convert a b X, ty, pos, af, none⟩ :: rest) s w := by
 refine xP _ w (by simp) ?_ h
 have hrun : (convert a b (.int .i32 x)).run P w = .ok (S (encL [x])) w := by
  simp [convert, run_underlying ha, run_underlying hb, encL, S, Conv.intToString]
 simp only [execOp, hx, Sem.run_bind, hrun, Result.andThen_ok, Sem.run_pure]
end ops
theorem hasPrefix_contract {P : Program} {f : FuncId} (h1 : ∀ (s p : ByteArray) (w : World), Calls P f #[.string s, .string p] w fun e w' => e = .returned (.bool (Lib.hasPrefix s.data.toList p.data.toList)) ∧ w' = w) (s p : List UInt8) (w : World) :
  Calls P f #[S s, S p] w (Ret fun v w' => v = .bool (p.isPrefixOf s) ∧ Below w.heap.size w w') := by
 refine (h1 ⟨s.toArray⟩ ⟨p.toArray⟩ w).mono ?_
 rintro e w' ⟨rfl, rfl⟩
 exact ⟨_, rfl, rfl, Below.refl _ _⟩
theorem index_byte (s : List UInt8) (c : UInt8) : Lib.indexByte s c = Lib.index s [c] := by
 induction s with
 | nil => rfl
 | cons b l ih =>
  rw [Lib.indexByte, Lib.index, ih]
  have : ([c].isPrefixOf (b :: l)) = (b == c) := by simp [List.isPrefixOf, Bool.beq_comm]
  rw [this]
theorem index1_contract {P : Program} {f : FuncId} (h1 : ∀ (s : ByteArray) (c : UInt8) (w : World), Calls P f #[.string s, .string ⟨#[c]⟩] w fun e w' => e = .returned (.int .i64 (Lib.indexByte s.data.toList c)) ∧ w' = w) (s sep : List UInt8) (w : World) (h : sep.length = 1) :
  Calls P f #[S s, S sep] w (Ret fun v w' => v = .int .i64 (Lib.index s sep) ∧ Below w.heap.size w w') := by
 obtain ⟨c, rfl⟩ := List.length_eq_one_iff.1 h
 refine (h1 ⟨s.toArray⟩ c w).mono ?_
 rintro e w' ⟨rfl, rfl⟩
 exact ⟨_, rfl, by rw [← index_byte], Below.refl _ _⟩
theorem trim_contract {P : Program} {f : FuncId}
  (h1 : ∀ (s cutset : ByteArray) (w : World), s.size ≤ 9223372036854775807 → cutset.size < 4294967281 → (∀ (j : Nat) (b : UInt8), cutset.data.toList[j]? = some b → b.toNat < 128) →
   Calls P f #[.string s, .string cutset] w fun e w' => e = .returned (.string ⟨(Lib.trimS s.data.toList cutset.data.toList).toArray⟩) ∧ Below w.heap.size w w')
  (s c : List UInt8) (w : World) (ha : c.all (fun b => decide (b.toNat < 128)) = true) (hs : s.length ≤ 1073741824) (hc : c.length ≤ 1073741824) :
  Calls P f #[S s, S c] w (Ret fun v w' => v = S (Lib.trimS s c) ∧ Below w.heap.size w w') := by
 refine (h1 ⟨s.toArray⟩ ⟨c.toArray⟩ w (by rw [vW]; omega) (by rw [vW]; omega) (Go.Proofs.ascii_of_all ha)).mono ?_
 rintro e w' ⟨rfl, h⟩
 exact ⟨_, rfl, rfl, h⟩
end Go.FK
end

/- === FKu === -/
section
/- FKu: regions that draw their order, in a round or not: what hangs on nothing is taken first, the rest in every order. My own text. -/
namespace Go.FK
open Go Go.RowKit
def noDefers (ops : Array Oper) : Bool := ops.toList.all fun o => notDefer o.op
theorem ops_fw {r : Option Nat} {P : Program} {ops : Array Oper} {Q : Exit → Act → World → Prop} (hd : noDefers ops = true) :
  ∀ (l : List Nat) (a : Act) (w : World), wpOpsIn (Fw none) 0 P ops Q l a w → wpOpsIn (Fw r) 0 P ops Q l a w
 | [], a, w, h => h
 | i :: rest, a, w, h => by
  rw [wpOpsIn_cons] at h ⊢
  unfold wpOpIn at h ⊢
  cases ho : ops[i]? with
  | none => simp only [ho] at h ⊢; exact ops_fw hd rest a w h
  | some o =>
   simp only [ho] at h ⊢
   have hne : ∀ c, o.op ≠ .defer c := uF (List.all_eq_true.1 hd o (by
    have := Array.mem_of_getElem? ho
    simpa using this))
   split
   ·rename_i hw
    rw [if_pos hw] at h
    have h := Oper.wpIn_mono (fun a w => ops_fw (r := r) hd rest a w) h
    unfold Oper.wpIn at h ⊢
    refine ⟨fun _ _ => trivial, ?_⟩
    have b := h.2
    rw [Oper.semAt_eq _ _ _ hne] at b ⊢
    exact b
   ·rename_i hw
    rw [if_neg hw] at h
    exact ⟨fun _ _ => trivial, ops_fw hd rest _ w h.2⟩
section
variable {P : Program} {n : Nat} {Q : Post} {s : Fm} {w : World} {ops : Array Oper} {fuel : Nat} {listed : Array Bool}
def Li (P : Program) (n : Nat) (ops : Array Oper) (Q : Post) (fuel : Nat) (listed : Array Bool) (s : Fm) (w : World) : Prop := wpAnyIn (Fw none) 0 P .any ops (upQ n Q) fuel listed (s.act n) w
theorem wD {r : Option Nat} {id : Nat} {l : List Oper} (N : Nat) (hN : Nat.beq l.length N = true) (hm : P.follows .mixedOrders = true) (hd : noDefers l.toArray = true)
  (h : ∀ w', Below w.heap.size w w' → Li P n l.toArray Q N (Array.replicate N false) s w') : W r P n (.region id l.toArray true) Q s w := by
 refine W_iff.2 (wpIn_region_draw fun t => ops_fw hd _ _ _ ?_)
 have hS := h { w with drawn := w.drawn + 1 } (Below.refl _ _).drew
 have e : l.length = N := Nat.eq_of_beq_eq_true hN
 subst e
 simp only [Region.schedule, hm, Bool.true_or, if_true]
 exact wpAnyIn_sound _ t _ _ _ (by simpa [Li] using hS)
def noCall : Op → Bool
  | .call _ => false
  | _ => true
theorem about_none {o : Oper} (h : noCall o.op = true) (w : World) (ρ : Operand → Value) : o.about P w ρ = none := by
 unfold Oper.about
 cases ho : o.op <;> first | rfl | (rw [ho] at h; cases h)
theorem I_take (i : Nat) {o : Oper} (v : Value) (hi : ops[i]? = some o) (hs : Region.noSelect ops = true) (hf : Region.free .any ops listed i = true) (hr : (Region.ready .any ops listed).contains i = true)
  (hc : noCall o.op = true) (hq : NoPanic Q) (hw : wantB ops n s o.guard = true) (hrun : ∀ w', (execOp (s.ev n) o).run P w' = .ok (.value v) w') (h : Li P n ops Q fuel (listed.setIfInBounds i true) (s.put o.dst v) w) : Li P n ops Q (fuel + 1) listed s w := by
 unfold Li at h ⊢
 refine wpAnyIn_take (v := v) rfl hi hs hf hr ?_ ⟨.inl ⟨?_, ?_⟩, fun w => about_none hc w _⟩ ?_
 ·intro c a w hp
  obtain ⟨s', _, hp⟩ := hp
  exact absurd hp (hq c s' w)
 ·rw [wanted_want]; exact hw
 ·intro w'; rw [vP]; exact hrun w'
 ·rw [uV]; exact h
theorem yJ (hr : Region.ready .any ops listed = []) (h : Q .normal s w) : Li P n ops Q fuel listed s w := wpAnyIn_done hr ⟨s, rfl, h⟩ fuel
def Iop (P : Program) (n : Nat) (ops : Array Oper) (Q : Post) (fuel : Nat) (listed : Array Bool) (i : Nat) (s : Fm) (w : World) : Prop :=
  wpOpIn (Fw none) 0 P ops (upQ n Q) i (wpAnyIn (Fw none) 0 P .any ops (upQ n Q) fuel (listed.setIfInBounds i true)) (s.act n) w
theorem yC (i : Nat) (hr : Region.ready .any ops listed = [i]) (h : Iop P n ops Q fuel listed i s w) : Li P n ops Q (fuel + 1) listed s w :=
 wpAnyIn_all hr (by simp) fun j hj => by
  obtain rfl : j = i := by simpa using hj
  exact h
theorem qD (i k : Nat) (hr : Region.ready .any ops listed = [i, k]) (h : Iop P n ops Q fuel listed i s w) (h2 : Iop P n ops Q fuel listed k s w) : Li P n ops Q (fuel + 1) listed s w :=
 wpAnyIn_all hr (by simp) fun j hj => by
  simp only [List.mem_cons, List.not_mem_nil, or_false] at hj
  rcases hj with rfl | rfl
  ·exact h
  ·exact h2
theorem yO (i : Nat) {o : Oper} (hi : ops[i]? = some o)
  (h : L none P n ops (fun e s' w' => e = .normal ∧ Li P n ops Q fuel (listed.setIfInBounds i true) s' w') [o] s w) (hg : o.guard = none) : Iop P n ops Q fuel listed i s w := by
 unfold Iop wpOpIn
 rw [hi]
 rw [L_iff] at h
 unfold wpListIn at h
 have hwant : Region.wanted o (yielded ops (s.act n).tmps) = true := by rw [wanted_want, hg]; rfl
 rw [if_pos hwant] at h
 simp only [hwant, if_true]
 have key : ∀ {a w'}, wpListIn (Fw none) 0 P ops (upQ n fun e s' w' => e = .normal ∧ Li P n ops Q fuel (listed.setIfInBounds i true) s' w') [] a w' → wpAnyIn (Fw none) 0 P .any ops (upQ n Q) fuel (listed.setIfInBounds i true) a w' := by
  rintro a w' ⟨s', rfl, _, hL⟩
  exact hL
 have h := Oper.wpIn_mono (fun a w => key) h
 unfold Oper.wpIn at h ⊢
 refine ⟨h.1, ?_⟩
 have b := h.2
 generalize (o.semAt (Fw none).round (s.act n).eval).run P w = r at b
 cases r with
 | ok x w' =>
  cases x <;> simp only [Oper.uponIn] at b ⊢ <;> first
   | exact b
   | exact ⟨b.1, CallsIn.mono b.2 (fun e w'' he => by
     cases e with
     | returned v => exact he
     | panicked c => obtain ⟨s', _, he, _⟩ := he; cases he
     | outgrown => exfalso; obtain ⟨_, _, s', _, he, _⟩ := he; cases he)⟩
   | exact ⟨b.1, RoundIn.mono b.2 (fun e w'' he => by
     cases e with
     | returned v => exact he
     | panicked c => obtain ⟨s', _, he, _⟩ := he; cases he
     | outgrown => exfalso; obtain ⟨_, _, s', _, he, _⟩ := he; cases he)⟩
 | halt x w' =>
  cases x <;> first
   | (exfalso; simp only [Oper.uponIn] at b; obtain ⟨s', _, he, _⟩ := b; cases he)
   | exact b
end
end Go.FK
namespace Go.FK
end Go.FK
namespace Go.FK
attribute [irreducible] Iop Li
end Go.FK
end

/- === FKo === -/
section
/- FKo: maps from whole numbers to whole numbers, made by the call itself, whose keys are laid once: made, looked up, laid. My own text. -/
namespace Go.FK
open Go Go.RowKit
def mEnt (k v : IntKind) : List (Int × Int) → Nat → List MapEntry
  | [], _ => []
  | p :: l, i => ⟨.int k p.1, .int v p.2, i⟩ :: mEnt k v l (i + 1)
def mapObj (k v : IntKind) (l : List (Int × Int)) : Obj := .map (mEnt k v l 0).toArray l.length
def midx : List (Int × Int) → Int → Option (Nat × Int)
  | [], _ => none
  | p :: l, x => if x = p.1 then some (0, p.2) else (midx l x).map fun q => (q.1 + 1, q.2)
def mget (l : List (Int × Int)) (x : Int) : Option Int := (midx l x).map (·.2)
section ops
variable {r : Option Nat} {P : Program} {n : Nat} {Q : Post} {s : Fm} {w : World} {ops : Array Oper} {rest : List Oper}
variable {d : Option Tmp} {ty : TypeId} {pos : String} {af : Array Edge}
end ops
end Go.FK
end

/- === PHexM === -/
section
/- Plain functions of chapter 4: code points in hexadecimal. -/
namespace Go.FK
open Go Go.RowKit
def hexTab : List UInt8 := [48, 49, 50, 51, 52, 53, 54, 55, 56, 57, 65, 66, 67, 68, 69, 70]
def digitV (c : Nat) : Int := if 48 ≤ c ∧ c ≤ 57 then (c : Int) - 48 else if 65 ≤ c ∧ c ≤ 70 then (c : Int) - 55 else -1
theorem uL (c : Nat) : -1 ≤ digitV c ∧ digitV c ≤ 15 := by
 unfold digitV; repeat' split
 all_goals omega
set_option maxRecDepth 100000 in
theorem ibF_tab (c : UInt8) : ibF [48, 49, 50, 51, 52, 53, 54, 55, 56, 57, 65, 66, 67, 68, 69, 70] ((c.toNat : Nat) : Int) = digitV c.toNat := by
 have key : (List.range 256).all (fun n => Lib.indexByte hexTab (UInt8.ofNat n) == digitV n) = true := by kernel_rfl
 have h := List.all_eq_true.1 key c.toNat (List.mem_range.2 (by have := c.toNat_lt; omega))
 have a : Lib.indexByte hexTab (UInt8.ofNat c.toNat) = digitV c.toNat := by simpa using h
 unfold ibF
 rw [Int.toNat_natCast]
 exact a
def hexV : List UInt8 → Nat → Option Nat
  | [], n => some n
  | c :: l, n => if digitV c.toNat < 0 then none else hexV l (16 * n + (digitV c.toNat).toNat)
def hexF (s : List UInt8) : Int × Int :=
  if (s.length < 4 ∨ 6 < s.length) ∨ (4 < s.length ∧ s.getD 0 0 = 48) then (0, 40) else
  match hexV s 0 with
  | none => (0, 40)
  | some n => if 1114111 < n then (0, 40) else ((n : Int), 0)
theorem hexF_len {s : List UInt8} (h : s.length < 4 ∨ 6 < s.length) : hexF s = (0, 40) := by unfold hexF; rw [if_pos (.inl h)]
theorem hexF_zero {s : List UInt8} {c : UInt8} (h : 4 < s.length) (hc : s[0]? = some c) (h0 : c.toNat = 48) : hexF s = (0, 40) := by
 have : c = 48 := UInt8.toNat_inj.1 h0
 unfold hexF; rw [if_pos (.inr ⟨h, by rw [List.getD_eq_getElem?_getD, hc, this]; rfl⟩)]
theorem hexF_bad {s : List UInt8} {i n : Nat} {c : UInt8} (hi : hexV (s.drop i) n = hexV s 0) (hc : s[i]? = some c) (hd : digitV c.toNat < 0) : hexF s = (0, 40) := by
 rw [xW hc, hexV, if_pos hd] at hi
 unfold hexF
 split
 ·rfl
 ·rw [← hi]
theorem hexV_step {s : List UInt8} {i n : Nat} {c : UInt8} (hi : hexV (s.drop i) n = hexV s 0) (hc : s[i]? = some c) (hd : 0 ≤ digitV c.toNat) : hexV (s.drop (i + 1)) (16 * n + (digitV c.toNat).toNat) = hexV s 0 := by
 rw [xW hc, hexV, if_neg (by omega)] at hi
 exact hi
theorem vN {s : List UInt8} {i n : Nat} (hi : hexV (s.drop i) n = hexV s 0) (h : s.length ≤ i) : hexV s 0 = some n := by
 rw [List.drop_eq_nil_of_le h, hexV] at hi; exact hi.symm
theorem hexF_big {s : List UInt8} {n : Nat} (h : hexV s 0 = some n) (hn : 1114111 < n) : hexF s = (0, 40) := by
 unfold hexF
 split
 ·rfl
 ·rw [h]; simp only; rw [if_pos hn]
theorem hexF_ok {s : List UInt8} {n : Nat} (h : hexV s 0 = some n) (hn : n ≤ 1114111) (h1 : 4 ≤ s.length) (h2 : s.length ≤ 6) (h3 : s.length ≤ 4 ∨ ∃ c, s[0]? = some c ∧ c.toNat ≠ 48) : hexF s = ((n : Int), 0) := by
 unfold hexF
 rw [if_neg, h]
 ·simp only; rw [if_neg (by omega)]
 ·intro hx
  rcases hx with hx | ⟨hx, a⟩
  ·omega
  ·rcases h3 with h3 | ⟨c, hc, hne⟩
   ·omega
   ·rw [List.getD_eq_getElem?_getD, hc] at a
    apply hne
    have : c = 48 := a
    rw [this]; rfl
theorem pow16 {i n : Nat} (h : n < 16 ^ i) (hi : i ≤ 5) : n < 1048576 := by
 have := Nat.pow_le_pow_right (n := 16) (by omega) hi
 omega
theorem pow16s {i n b : Nat} (h : n < 16 ^ i) (hb : b < 16) : 16 * n + b < 16 ^ (i + 1) := by
 rw [Nat.pow_succ]; omega
theorem pow166 {i n : Nat} (h : n < 16 ^ i) (hi : i ≤ 6) : n < 16777216 := by
 have := Nat.pow_le_pow_right (n := 16) (by omega) hi
 omega
def mayF (lo hi : Int) : Bool := decide (0 ≤ lo ∧ lo ≤ hi ∧ hi ≤ 1114111)
theorem mayF_true {lo hi : Int} (h1 : 0 ≤ lo) (h2 : lo ≤ hi) (h3 : hi ≤ 1114111) : mayF lo hi = true := decide_eq_true ⟨h1, h2, h3⟩
theorem mayF_false {lo hi : Int} (h : ¬ (0 ≤ lo ∧ lo ≤ hi ∧ hi ≤ 1114111)) : mayF lo hi = false := decide_eq_false h
end Go.FK
namespace Go.FK
open Go Go.RowKit
theorem dig_found {i : Nat} {c : UInt8} (h : ([48, 49, 50, 51, 52, 53, 54, 55, 56, 57, 65, 66, 67, 68, 69, 70] : List UInt8)[i]? = some c) : digitV c.toNat = (i : Int) := by
 have hi : i < 16 := by have := (List.getElem?_eq_some_iff.1 h).1; simpa using this
 have key : ∀ i : Nat, i < 16 → digitV (hexTab.getD i 0).toNat = ((i : Nat) : Int) := by decide
 have e : hexTab.getD i 0 = c := by rw [List.getD_eq_getElem?_getD]; exact congrArg (fun o => Option.getD o 0) h
 rw [← e]; exact key i hi
theorem dig_none {b : Nat} (h : ∀ (j : Nat) (c : UInt8), j < 16 → ([48, 49, 50, 51, 52, 53, 54, 55, 56, 57, 65, 66, 67, 68, 69, 70] : List UInt8)[j]? = some c → c.toNat ≠ b) : digitV b = -1 := by
 unfold digitV
 split
 ·rename_i hb
  exfalso
  have key : ∀ j : Nat, j < 10 → hexTab[j]? = some (UInt8.ofNat (48 + j)) ∧ (UInt8.ofNat (48 + j)).toNat = 48 + j := by decide
  obtain ⟨hc, he⟩ := key (b - 48) (by omega)
  exact h (b - 48) _ (by omega) hc (by omega)
 ·split
  ·rename_i hb
   exfalso
   have key : ∀ j : Nat, j < 6 → hexTab[10 + j]? = some (UInt8.ofNat (65 + j)) ∧ (UInt8.ofNat (65 + j)).toNat = 65 + j := by decide
   obtain ⟨hc, he⟩ := key (b - 65) (by omega)
   exact h (10 + (b - 65)) _ (by omega) hc (by omega)
  ·rfl
def digInv (b : Int) (i : Nat) : Prop := ∀ (j : Nat) (c : UInt8), j < i → ([48, 49, 50, 51, 52, 53, 54, 55, 56, 57, 65, 66, 67, 68, 69, 70] : List UInt8)[j]? = some c → (c.toNat : Int) ≠ b
theorem digInv_zero (b : Int) : digInv b 0 := fun j c h => by omega
theorem digInv_succ {b : Int} {i : Nat} {c : UInt8} (h : digInv b i) (hc : ([48, 49, 50, 51, 52, 53, 54, 55, 56, 57, 65, 66, 67, 68, 69, 70] : List UInt8)[i]? = some c) (hne : (c.toNat : Int) ≠ b) : digInv b (i + 1) := by
 intro j c' hj hc'
 rcases Nat.lt_or_ge j i with a | a
 ·exact h j c' a hc'
 ·obtain rfl : j = i := by omega
  rw [hc] at hc'; cases hc'; exact hne
theorem digInv_end {b : Int} {i : Nat} (h : digInv b i) (hi : 16 ≤ i) (hb : 0 ≤ b) : digitV b.toNat = -1 :=
 dig_none fun j c hj hc he => h j c (by omega) hc (by omega)
def hexDig (n i : Nat) : UInt8 := hexTab.getD (n / 16 ^ i % 16) 0
def cntD (n : Nat) : Nat := if n < 65536 then 4 else if n < 1048576 then 5 else 6
def digsD (n l : Nat) : List UInt8 := ((List.range l).map (hexDig n)).reverse
def showF (r : Int) : List UInt8 × Int := if r < 0 ∨ 1114111 < r then ([], 40) else (digsD r.toNat (cntD r.toNat), 0)
theorem digsD_len (n l : Nat) : (digsD n l).length = l := by simp [digsD]
theorem cntD_le (n : Nat) : 4 ≤ cntD n ∧ cntD n ≤ 6 := by
 unfold cntD
 split
 ·omega
 ·split <;> omega
theorem cnt_lt {n l : Nat} (h : 0 < n / 16 ^ l) (hn : n ≤ 1114111) (hl : l ≤ cntD n) : l < cntD n := by
 rcases Nat.lt_or_ge l (cntD n) with a | a
 ·exact a
 ·exfalso
  obtain rfl : l = cntD n := by omega
  have : n / 16 ^ cntD n = 0 := by
   apply Nat.div_eq_of_lt
   unfold cntD
   split
   ·simpa using by assumption
   ·split
    ·simpa using by assumption
    ·simp; omega
  omega
theorem cnt_end {n l : Nat} (h : n / 16 ^ l = 0) (h4 : 4 ≤ l) (hl : l ≤ cntD n) : l = cntD n := by
 have hlt : n < 16 ^ l := by
  rcases Nat.lt_or_ge n (16 ^ l) with a | a
  ·exact a
  ·have := Nat.div_pos a (Nat.pow_pos (n := l) (show 0 < 16 by omega)); omega
 rcases Nat.lt_or_ge l (cntD n) with a | a
 ·exfalso
  unfold cntD at a
  split at a
  ·omega
  ·split at a
   ·obtain rfl : l = 4 := by omega
    simp at hlt; omega
   ·have e : l = 4 ∨ l = 5 := by omega
    rcases e with rfl | rfl <;> (simp at hlt; omega)
 ·omega
theorem digs_succ {n l : Nat} {c : UInt8} (hc : hexTab[n / 16 ^ l % 16]? = some c) : c :: digsD n l = digsD n (l + 1) := by
 unfold digsD
 rw [List.range_succ, List.map_append, List.reverse_append]
 have : hexDig n l = c := by unfold hexDig; rw [List.getD_eq_getElem?_getD, hc]; rfl
 simp [this]
theorem bytesI_u8 (c : UInt8) : bytesI [((c.toNat : Nat) : Int)] = [c] := by simp [bytesI]
end Go.FK
namespace Go.FK
def showSpanF (lo hi : Int) : List UInt8 × Int := if mayF lo hi = false then ([], 41) else if lo = hi then ((showF lo).1, 0) else ((showF lo).1 ++ [46, 46] ++ (showF hi).1, 0)
theorem Zd {r : Int} (h : r < 0 ∨ 1114111 < r) : showF r = ([], 40) := by unfold showF; rw [if_pos h]
theorem showF_ok {r : Int} (h1 : 0 ≤ r) (h2 : r ≤ 1114111) : showF r = (digsD r.toNat (cntD r.toNat), 0) := by unfold showF; rw [if_neg (by omega)]
theorem showF_len (r : Int) : (showF r).1.length ≤ 6 := by
 unfold showF
 split
 ·simp
 ·simp only; rw [digsD_len]; exact (cntD_le _).2
def dotsN (s : List UInt8) : Nat → Nat → Option Nat
  | 0, _ => none
  | f + 1, i => if i + 1 < s.length then (if s.getD i 0 = 46 ∧ s.getD (i + 1) 0 = 46 then some i else dotsN s f (i + 1)) else none
def dotsFrom (s : List UInt8) (i : Nat) : Option Nat := dotsN s (s.length - i) i
theorem dotsFrom_step {s : List UInt8} {i : Nat} (h : i + 1 < s.length) : dotsFrom s i = if s.getD i 0 = 46 ∧ s.getD (i + 1) 0 = 46 then some i else dotsFrom s (i + 1) := by
 unfold dotsFrom
 rw [show s.length - i = (s.length - (i + 1)) + 1 by omega, dotsN, if_pos h]
theorem dotsFrom_end {s : List UInt8} {i : Nat} (h : s.length ≤ i + 1) : dotsFrom s i = none := by
 unfold dotsFrom
 cases hn : s.length - i with
 | zero => rfl
 | succ m => rw [dotsN, if_neg (by omega)]
def spanF (s : List UInt8) : Int × Int × Int :=
  match dotsFrom s 0 with
  | none => if (hexF s).2 ≠ 0 then (0, 0, (hexF s).2) else ((hexF s).1, (hexF s).1, 0)
  | some a => if (hexF (s.take a)).2 ≠ 0 ∨ (hexF (s.drop (a + 2))).2 ≠ 0 then (0, 0, 40) else if (hexF (s.drop (a + 2))).1 < (hexF (s.take a)).1 then (0, 0, 41) else ((hexF (s.take a)).1, (hexF (s.drop (a + 2))).1, 0)
theorem u8_46 {c : UInt8} : c = 46 ↔ c.toNat = 46 := ⟨fun h => by rw [h]; rfl, fun h => UInt8.toNat_inj.1 h⟩
theorem dots_hit {s : List UInt8} {i : Nat} {c d : UInt8} (hc : s[i]? = some c) (hd : s[i + 1]? = some d) (h1 : c.toNat = 46) (h2 : d.toNat = 46) : dotsFrom s i = some i := by
 rw [dotsFrom_step (List.getElem?_eq_some_iff.1 hd).1, if_pos ⟨by rw [getD_some hc]; exact u8_46.2 h1, by rw [getD_some hd]; exact u8_46.2 h2⟩]
theorem dots_miss1 {s : List UInt8} {i : Nat} {c : UInt8} (hi : i + 1 < s.length) (hc : s[i]? = some c) (h1 : c.toNat ≠ 46) : dotsFrom s i = dotsFrom s (i + 1) := by
 rw [dotsFrom_step hi, if_neg (fun h => h1 (u8_46.1 (by rw [← getD_some hc]; exact h.1)))]
theorem dots_miss2 {s : List UInt8} {i : Nat} {d : UInt8} (hi : i + 1 < s.length) (hd : s[i + 1]? = some d) (h1 : d.toNat ≠ 46) : dotsFrom s i = dotsFrom s (i + 1) := by
 rw [dotsFrom_step hi, if_neg (fun h => h1 (u8_46.1 (by rw [← getD_some hd]; exact h.2)))]
def atInv (s : List UInt8) (i : Nat) (at_ : Int) : Prop := (at_ = -1 ∧ dotsFrom s i = dotsFrom s 0) ∨ (0 ≤ at_ ∧ at_.toNat + 1 < s.length ∧ dotsFrom s 0 = some at_.toNat)
theorem at_zero (s : List UInt8) : atInv s 0 (-1) := .inl ⟨rfl, rfl⟩
theorem at_miss {s : List UInt8} {i : Nat} {a : Int} (h : atInv s i a) (ha : a < 0) (e : dotsFrom s i = dotsFrom s (i + 1)) : atInv s (i + 1) a := by
 rcases h with ⟨b, c⟩ | ⟨b, _⟩
 ·exact .inl ⟨b, by rw [← e]; exact c⟩
 ·omega
theorem at_hit {s : List UInt8} {i : Nat} {a : Int} (h : atInv s i a) (ha : a < 0) (hi : i + 1 < s.length) (e : dotsFrom s i = some i) : atInv s (i + 1) ((i : Nat) : Int) := by
 rcases h with ⟨c, b⟩ | ⟨c, _⟩
 ·exact .inr ⟨by omega, by simpa using hi, by rw [← b, e]; simp⟩
 ·omega
theorem at_none {s : List UInt8} {i : Nat} {a : Int} (h : atInv s i a) (ha : a < 0) (hi : s.length ≤ i + 1) : dotsFrom s 0 = none := by
 rcases h with ⟨c, b⟩ | ⟨c, _⟩
 ·rw [← b]; exact dotsFrom_end hi
 ·omega
theorem qB {s : List UInt8} {i : Nat} {a : Int} (h : atInv s i a) (ha : 0 ≤ a) : dotsFrom s 0 = some a.toNat ∧ a.toNat + 1 < s.length := by
 rcases h with ⟨c, b⟩ | ⟨_, c, b⟩
 ·omega
 ·exact ⟨b, c⟩
end Go.FK
namespace Go.FK
open Go Go.RowKit
theorem Zc {r : Nat} {acc : List UInt8} {z : Int} {c : UInt8} (i2 : z = ((r / 16 ^ acc.length : Nat) : Int)) (i3 : acc = digsD r acc.length) (hc : ([48, 49, 50, 51, 52, 53, 54, 55, 56, 57, 65, 66, 67, 68, 69, 70] : List UInt8)[(z % 16).toNat]? = some c) :
  (bytesI [((c.toNat : Nat) : Int)] ++ acc).length = acc.length + 1 ∧ z / 16 = ((r / 16 ^ (bytesI [((c.toNat : Nat) : Int)] ++ acc).length : Nat) : Int) ∧ bytesI [((c.toNat : Nat) : Int)] ++ acc = digsD r (bytesI [((c.toNat : Nat) : Int)] ++ acc).length := by
 have hl : (bytesI [((c.toNat : Nat) : Int)] ++ acc).length = acc.length + 1 := by rw [bytesI_u8]; rfl
 refine ⟨hl, ?_, ?_⟩
 ·rw [hl, Nat.pow_succ, ← Nat.div_div_eq_div_mul]
  generalize r / 16 ^ acc.length = q at *; omega
 ·rw [hl, bytesI_u8]
  have h : hexTab[r / 16 ^ acc.length % 16]? = some c := by
   have e : r / 16 ^ acc.length % 16 = (z % 16).toNat := by generalize r / 16 ^ acc.length = q at *; omega
   rw [e]; exact hc
  rw [← digs_succ h, ← i3]; rfl
theorem show_end {r : Nat} {acc : List UInt8} {z : Int} (i1 : acc.length ≤ cntD r) (i2 : z = ((r / 16 ^ acc.length : Nat) : Int)) (i3 : acc = digsD r acc.length) (hz : z ≤ 0) (h4 : 4 ≤ acc.length) : acc = digsD r (cntD r) := by
 have hq : r / 16 ^ acc.length = 0 := by generalize r / 16 ^ acc.length = q at i2 ⊢; omega
 have he := cnt_end (n := r) (l := acc.length) hq h4 i1
 rw [← he]; exact i3
theorem show_facts {r : Nat} {acc : List UInt8} {z : Int} (i1 : acc.length ≤ cntD r) (i2 : z = ((r / 16 ^ acc.length : Nat) : Int)) (hr : r ≤ 1114111) : 0 ≤ z ∧ z ≤ 1114111 ∧ (0 < z → acc.length < cntD r) := by
 have hd := Nat.div_le_self r (16 ^ acc.length)
 refine ⟨?_, ?_, fun h => cnt_lt ?_ hr i1⟩ <;> (generalize r / 16 ^ acc.length = q at *; omega)
theorem showSpan_bad {lo hi : Int} (h : mayF lo hi = false) : showSpanF lo hi = ([], 41) := by unfold showSpanF; rw [if_pos h]
theorem showSpan_one {lo hi : Int} (h : mayF lo hi = true) (e : lo = hi) : showSpanF lo hi = ((showF lo).1, 0) := by unfold showSpanF; rw [if_neg (by rw [h]; decide), if_pos e]
theorem showSpan_two {lo hi : Int} (h : mayF lo hi = true) (e : lo ≠ hi) : showSpanF lo hi = ((showF lo).1 ++ [46, 46] ++ (showF hi).1, 0) := by unfold showSpanF; rw [if_neg (by rw [h]; decide), if_neg e]
theorem vU {s : List UInt8} (h : dotsFrom s 0 = none) : spanF s = if (hexF s).2 ≠ 0 then (0, 0, (hexF s).2) else ((hexF s).1, (hexF s).1, 0) := by unfold spanF; rw [h]
theorem wF {s : List UInt8} {a : Nat} (h : dotsFrom s 0 = some a) : spanF s = if (hexF (s.take a)).2 ≠ 0 ∨ (hexF (s.drop (a + 2))).2 ≠ 0 then (0, 0, 40) else if (hexF (s.drop (a + 2))).1 < (hexF (s.take a)).1 then (0, 0, 41) else ((hexF (s.take a)).1, (hexF (s.drop (a + 2))).1, 0) := by unfold spanF; rw [h]
end Go.FK
namespace Go.FK
open Go Go.RowKit
def lowB (l : List UInt8) : List Int := l.reverse.map fun c => (c.toNat : Int)
theorem lowB_back (l : List UInt8) : bytesI (List.reverse (lowB l)) = l := by
 unfold lowB bytesI
 rw [← List.map_reverse, List.reverse_reverse, List.map_map]
 have : ((fun n : Int => UInt8.ofNat n.toNat) ∘ fun c : UInt8 => (c.toNat : Int)) = id := by
  funext c; simp
 rw [this, List.map_id]
theorem show_stepR {r : Nat} {acc : List Int} {z : Int} {c : UInt8} (i2 : z = ((r / 16 ^ acc.length : Nat) : Int)) (i3 : acc = lowB (digsD r acc.length)) (hc : ([48, 49, 50, 51, 52, 53, 54, 55, 56, 57, 65, 66, 67, 68, 69, 70] : List UInt8)[z.toNat % 16]? = some c) :
  z / 16 = ((r / 16 ^ (acc ++ [((c.toNat : Nat) : Int)]).length : Nat) : Int) ∧ acc ++ [((c.toNat : Nat) : Int)] = lowB (digsD r (acc ++ [((c.toNat : Nat) : Int)]).length) := by
 have hl : (acc ++ [((c.toNat : Nat) : Int)]).length = acc.length + 1 := by simp
 rw [hl]
 refine ⟨?_, ?_⟩
 ·rw [Nat.pow_succ, ← Nat.div_div_eq_div_mul]
  generalize r / 16 ^ acc.length = q at *; omega
 ·have h : hexTab[r / 16 ^ acc.length % 16]? = some c := by
   have e : r / 16 ^ acc.length % 16 = z.toNat % 16 := by generalize r / 16 ^ acc.length = q at *; omega
   rw [e]; exact hc
  rw [← digs_succ h]
  unfold lowB
  rw [List.reverse_cons, List.map_append]
  congr 1
theorem show_factsR {r : Nat} {acc : List Int} {z : Int} (i1 : acc.length ≤ cntD r) (i2 : z = ((r / 16 ^ acc.length : Nat) : Int)) (hr : r ≤ 1114111) : 0 ≤ z ∧ z ≤ 1114111 ∧ (0 < z → acc.length < cntD r) := by
 have hd := Nat.div_le_self r (16 ^ acc.length)
 refine ⟨?_, ?_, fun h => cnt_lt ?_ hr i1⟩ <;> (generalize r / 16 ^ acc.length = q at *; omega)
theorem show_endR {r : Nat} {acc : List Int} {z : Int} (i1 : acc.length ≤ cntD r) (i2 : z = ((r / 16 ^ acc.length : Nat) : Int)) (i3 : acc = lowB (digsD r acc.length)) (hz : z ≤ 0) (h4 : 4 ≤ acc.length) : bytesI (List.reverse acc) = digsD r (cntD r) := by
 have hq : r / 16 ^ acc.length = 0 := by generalize r / 16 ^ acc.length = q at i2 ⊢; omega
 have he := cnt_end (n := r) (l := acc.length) hq h4 i1
 rw [i3, lowB_back, he]
end Go.FK
namespace Go.FK
open Go Go.RowKit
theorem getD_drop {s : List UInt8} {i : Nat} {b : UInt8} {l : List UInt8} (h : s.drop i = b :: l) : s.getD i 0 = b ∧ s.drop (i + 1) = l ∧ i < s.length := by
 have hi : i < s.length := by
  rcases Nat.lt_or_ge i s.length with a | a
  ·exact a
  ·rw [List.drop_eq_nil_of_le a] at h; cases h
 rw [List.drop_eq_getElem_cons hi] at h
 injection h with a h2
 refine ⟨?_, h2, hi⟩
 rw [List.getD_eq_getElem?_getD, List.getElem?_eq_getElem hi]; exact a
theorem dots_index (s : List UInt8) : ∀ (n i : Nat), s.length - i ≤ n → (dotsFrom s i = none ∧ Lib.index (s.drop i) [46, 46] = -1) ∨ (∃ a : Nat, i ≤ a ∧ dotsFrom s i = some a ∧ Lib.index (s.drop i) [46, 46] = (a : Int) - i) := by
 intro n
 induction n with
 | zero =>
  intro i hn
  left
  rw [List.drop_eq_nil_of_le (by omega)]
  exact ⟨dotsFrom_end (by omega), by decide⟩
 | succ n ih =>
  intro i hn
  cases hd : s.drop i with
  | nil =>
   left
   have := congrArg List.length hd
   simp at this
   exact ⟨dotsFrom_end (by omega), by decide⟩
  | cons b l =>
   obtain ⟨k, f, hi⟩ := getD_drop hd
   have ih' := ih (i + 1) (by omega)
   rw [f] at ih'
   unfold Lib.index
   cases l with
   | nil =>
    left
    have : s.length ≤ i + 1 := by have := congrArg List.length f; simp at this; omega
    refine ⟨dotsFrom_end this, ?_⟩
    rw [if_neg (by simp [List.isPrefixOf])]
    rfl
   | cons c l' =>
    obtain ⟨h, m, e⟩ := getD_drop f
    rw [dotsFrom_step e, k, h]
    by_cases hbc : b = 46 ∧ c = 46
    ·right
     obtain ⟨rfl, rfl⟩ := hbc
     refine ⟨i, Nat.le_refl _, by rw [if_pos ⟨rfl, rfl⟩], ?_⟩
     rw [if_pos (by simp [List.isPrefixOf])]; omega
    ·rw [if_neg hbc, if_neg (by
      intro hp
      simp [List.isPrefixOf] at hp
      exact hbc ⟨hp.1.symm, hp.2.symm⟩)]
     rcases ih' with ⟨g, d⟩ | ⟨a, g, d, j⟩
     ·left
      exact ⟨g, by rw [d]; rfl⟩
     ·right
      refine ⟨a, by omega, d, ?_⟩
      rw [j, if_neg (by simp; omega)]; omega
theorem cut_dots (s : List UInt8) : (dotsFrom s 0 = none ∧ Lib.cut s [46, 46] = (s, [], false)) ∨ (∃ a : Nat, dotsFrom s 0 = some a ∧ Lib.cut s [46, 46] = (s.take a, s.drop (a + 2), true)) := by
 have h := dots_index s _ 0 (Nat.le_refl _)
 rw [List.drop_zero] at h
 rcases h with ⟨c, b⟩ | ⟨a, _, c, b⟩
 ·left
  refine ⟨c, ?_⟩
  unfold Lib.cut; rw [b, if_neg (by omega)]
 ·right
  refine ⟨a, c, ?_⟩
  unfold Lib.cut; rw [b, if_pos (by omega)]
  have : ((a : Int) - (0 : Nat)).toNat = a := by omega
  rw [this]; rfl
theorem hexF_err (s : List UInt8) : (hexF s).2 = 0 ∨ (hexF s).2 = 40 := by
 unfold hexF
 split
 ·exact .inr rfl
 ·split
  ·exact .inr rfl
  ·split
   ·exact .inr rfl
   ·exact .inl rfl
theorem cut_len (s sep : List UInt8) : (Lib.cut s sep).1.length ≤ s.length ∧ (Lib.cut s sep).2.1.length ≤ s.length := by
 unfold Lib.cut
 split
 ·simp only [List.length_take, List.length_drop]; omega
 ·simp
theorem nt {b : Bool} (h : (!b) = true) : b = false := by cases b <;> simp_all
theorem nf {b : Bool} (h : (!b) = false) : ¬ b = false := by cases b <;> simp_all
theorem uP (s : List UInt8) : spanF s = if (hexF (Lib.cut s [46, 46]).1).2 ≠ 0 then (0, 0, (hexF (Lib.cut s [46, 46]).1).2) else if (Lib.cut s [46, 46]).2.2 = false then ((hexF (Lib.cut s [46, 46]).1).1, (hexF (Lib.cut s [46, 46]).1).1, 0) else
  if (hexF (Lib.cut s [46, 46]).2.1).2 ≠ 0 then (0, 0, (hexF (Lib.cut s [46, 46]).2.1).2) else if (hexF (Lib.cut s [46, 46]).2.1).1 < (hexF (Lib.cut s [46, 46]).1).1 then (0, 0, 41) else ((hexF (Lib.cut s [46, 46]).1).1, (hexF (Lib.cut s [46, 46]).2.1).1, 0) := by
 rcases cut_dots s with ⟨e, d⟩ | ⟨a, e, d⟩
 ·rw [vU e, d]
  simp only
  split <;> simp
 ·rw [wF e, d]
  simp only
  have b := hexF_err (s.take a)
  have c := hexF_err (s.drop (a + 2))
  rcases b with b | b <;> rcases c with c | c <;> simp [b, c]
end Go.FK
end

/- === PHex === -/
section
/- A stand-in's name: chapter 4's texts lean on PHex; behind chapter 3's texts it is PHexM. -/
end

/- === PGE === -/
section
/- PGE: the kinds of values of chapter 4's maps, in memory. My own text. -/
namespace Go.FK
open Go Go.RowKit
abbrev SpS := SpG (List UInt8)
abbrev SpI := SpG Int
abbrev SpB := SpG Bool
def encSpanS (x : SpS) : List Value := [.int .i32 x.1, .int .i32 x.2.1, S x.2.2]
def encSpanI (x : SpI) : List Value := [.int .i32 x.1, .int .i32 x.2.1, .int .i64 x.2.2]
def encSpanB (x : SpB) : List Value := [.int .i32 x.1, .int .i32 x.2.1, .bool x.2.2]
def eqS (a b : List UInt8) : Bool := decide (a = b)
def eqI (a b : Int) : Bool := decide (a = b)
def eqB (a b : Bool) : Bool := decide (a = b)
theorem wQ (a b : Int) : eqI a b = true ↔ a = b := decide_eq_true_iff
theorem eqI_y {a b : Int} (h : a = b) : eqI a b = true := decide_eq_true h
theorem eqI_n {a b : Int} (h : a ≠ b) : eqI a b = false := decide_eq_false h
theorem tnf {b : Bool} (h : b = true) : ¬ b = false := by rw [h]; decide
theorem gep_same {α : Type} {s vs : List α} {i j : Nat} (h : i = j) (hp : vs.length = 0) : s = List.take i s ++ vs ++ List.drop j s := by
 subst h
 obtain rfl : vs = [] := List.eq_nil_of_length_eq_zero hp
 simp
theorem gep_end {α : Type} {s vs : List α} {i : Nat} (h : i = s.length) : s ++ vs = List.take i s ++ vs ++ List.drop i s := by subst h; simp
theorem gep_tail {α : Type} {s vs : List α} {i j : Nat} (h : j = s.length) : List.take i s ++ vs = List.take i s ++ vs ++ List.drop j s := by subst h; simp
end Go.FK
end

/- === PFold === -/
section
/- PFold: maps laid over one another, maps turned, how many code points have a value. My own text. -/
namespace Go.FK
section
variable {V W : Type} {eq : V → V → Bool}
def layAll (eq : V → V → Bool) (m xs : List (SpG V)) : List (SpG V) := xs.foldl (fun m s => layF eq m s.1 s.2.1 s.2.2) m
def turnAll (eq : W → W → Bool) (f : V → W) (xs : List (SpG V)) : List (SpG W) := xs.foldl (fun m s => layF eq m s.1 s.2.1 (f s.2.2)) []
theorem layAll_snoc (m xs : List (SpG V)) (s : SpG V) : layAll eq m (xs ++ [s]) = layF eq (layAll eq m xs) s.1 s.2.1 s.2.2 := by unfold layAll; rw [List.foldl_append]; rfl
structure MapOk (eq : V → V → Bool) (xs : List (SpG V)) : Prop where
  rise : RiseG 0 xs
  can : CanG eq none xs
theorem MapOk.nil : MapOk eq [] := ⟨trivial, trivial⟩
theorem MapOk.lay (hE : ∀ a b, eq a b = true ↔ a = b) {xs : List (SpG V)} (h : MapOk eq xs) (lo hi : Int) (v : V) : MapOk eq (layF eq xs lo hi v) := ⟨layF_rise h.rise, layF_can hE h.rise h.can⟩
theorem MapOk.put (hE : ∀ a b, eq a b = true ↔ a = b) {xs : List (SpG V)} (h : MapOk eq xs) (lo hi : Int) (v : V) : MapOk eq (putF eq xs lo hi v) := ⟨putF_rise h.rise, putF_can hE h.rise h.can⟩
theorem layF_val (hE : ∀ a b, eq a b = true ↔ a = b) {xs : List (SpG V)} (h : RiseG 0 xs) {lo hi : Int} (hm : mayG lo hi = true) (v : V) (x : Int) : valG (layF eq xs lo hi v) x = if lo ≤ x ∧ x ≤ hi then some v else valG xs x := by
 unfold layF; rw [if_neg (by rw [hm]; decide)]; exact layG_val hE h hm x
theorem foldLay {eq : W → W → Bool} (hE : ∀ a b, eq a b = true ↔ a = b) (f : V → W) : ∀ (xs : List (SpG V)) (b : Int) (m : List (SpG W)), 0 ≤ b → RiseG b xs → MapOk eq m →
  MapOk eq (xs.foldl (fun m s => layF eq m s.1 s.2.1 (f s.2.2)) m) ∧ ∀ x, valG (xs.foldl (fun m s => layF eq m s.1 s.2.1 (f s.2.2)) m) x = ((valG xs x).map f).or (valG m x)
 | [], b, m, _, _, hm => ⟨hm, fun x => by simp [valG_nil]⟩
 | s :: l, b, m, hb, h, hm => by
  obtain ⟨g, d, e, c⟩ := h
  have hmay : mayG s.1 s.2.1 = true := decide_eq_true ⟨by omega, d, e⟩
  have ih := foldLay hE f l (s.2.1 + 1) (layF eq m s.1 s.2.1 (f s.2.2)) (by omega) c (hm.lay hE _ _ _)
  refine ⟨ih.1, fun x => ?_⟩
  rw [List.foldl_cons, ih.2 x, layF_val hE hm.rise hmay]
  by_cases hx : s.1 ≤ x ∧ x ≤ s.2.1
  ·rw [if_pos hx, wA hx, c.low (by omega)]; rfl
  ·rw [if_neg hx, qJ (by omega)]
theorem layAll_ok (hE : ∀ a b, eq a b = true ↔ a = b) {xs m : List (SpG V)} (h : RiseG 0 xs) (hm : MapOk eq m) : MapOk eq (layAll eq m xs) ∧ ∀ x, valG (layAll eq m xs) x = (valG xs x).or (valG m x) := by
 have := foldLay hE id xs 0 m (Int.le_refl _) h hm
 refine ⟨this.1, fun x => ?_⟩
 have c := this.2 x
 rw [Option.map_id] at c
 exact c
theorem MapOk.one (hE : ∀ a b, eq a b = true ↔ a = b) {l m : List (SpG V)} (hl : MapOk eq l) (hm : MapOk eq m) (h : ∀ x, valG l x = valG m x) : l = m := one_form eq hE hl.rise hm.rise hl.can hm.can h
def overF (eq : V → V → Bool) (a b : List (SpG V)) : List (SpG V) := layAll eq (layAll eq [] a) b
def cntB (P : Int → Bool) (b : Int) : Nat → Int
  | 0 => 0
  | n + 1 => (if P b = true then 1 else 0) + cntB P (b + 1) n
theorem mem_val {xs : List (SpG V)} {b : Int} (h : RiseG b xs) {s : SpG V} (hs : s ∈ xs) {x : Int} (hx : s.1 ≤ x ∧ x ≤ s.2.1) : valG xs x = some s.2.2 := by
 obtain ⟨A, B, rfl⟩ := List.append_of_mem hs
 have a := uQ.1 h
 rw [Zp, wA hx]
 have : valG A x = none := by
  unfold valG
  rw [List.find?_eq_none.2 (fun t ht => by rw [inS_no (by have := (a.2.2 t ht).1; omega)]; decide)]; rfl
 rw [this]; rfl
end
end Go.FK
end

/- === PGF === -/
section
/- PGF: putting into a map, and what a copy and a comparison of lists hold. My own text. -/
namespace Go.FK
open Go Go.RowKit
section
variable {V : Type} {xs : List (SpG V)} {lo hi : Int} {v z : V} {eq : V → V → Bool}
theorem put_badG (h : mayG lo hi = false) : 41 = putE xs lo hi ∧ xs = putF eq xs lo hi v := by unfold putE putF; rw [if_pos h, if_pos h]; exact ⟨rfl, rfl⟩
theorem met_some (h : (metV z (metG xs lo hi)).2.2.2 = true) : (metG xs lo hi).isSome = true := by
 cases hm : metG xs lo hi with
 | none => rw [hm] at h; exact absurd h (by simp [metV])
 | some s => rfl
theorem met_noneV (h : (metV z (metG xs lo hi)).2.2.2 = false) : metG xs lo hi = none := by
 cases hm : metG xs lo hi with
 | none => rfl
 | some s => rw [hm] at h; exact absurd h (by simp [metV])
theorem put_metG (hm : mayG lo hi = true) (h : (metV z (metG xs lo hi)).2.2.2 = true) : 42 = putE xs lo hi ∧ xs = putF eq xs lo hi v := by
 unfold putE putF; rw [if_neg (tnf hm), if_neg (tnf hm), if_pos (met_some h), if_pos (met_some h)]; exact ⟨rfl, rfl⟩
theorem put_okG (hm : mayG lo hi = true) (h : (metV z (metG xs lo hi)).2.2.2 = false) : layE lo hi = putE xs lo hi ∧ layF eq xs lo hi v = putF eq xs lo hi v := by
 have a := met_noneV h
 unfold putE putF layE layF
 rw [a, if_neg (tnf hm), if_neg (tnf hm), if_neg (tnf hm), if_neg (tnf hm)]; exact ⟨rfl, rfl⟩
end
section
variable {α : Type} {a b xs pre : List α} {i : Nat} {x y : α}
theorem tk_pre (h : xs[i]? = some x) : xs.take i ++ [x] <+: xs := by
 have : xs.take i ++ [x] = xs.take (i + 1) := by rw [List.take_add_one, h]; rfl
 rw [this]; exact List.take_prefix _ _
theorem tk_snoc (h : xs[i]? = some x) : xs.take i ++ [x] = xs.take (i + 1) := by rw [List.take_add_one, h]; rfl
theorem tk_same (h : a.take i = b.take i) (hx : a[i]? = some x) (hy : b[i]? = some y) (e : x = y) : a.take (i + 1) = b.take (i + 1) := by
 rw [List.take_add_one, List.take_add_one, hx, hy, h, e]
theorem tk_all (h : a.take i = b.take i) (hl : a.length = b.length) (hi : a.length ≤ i) : a = b := by
 rwa [List.take_of_length_le hi, List.take_of_length_le (by omega)] at h
theorem tk_one (h : pre ++ [x] <+: xs) : xs[pre.length]? = some x := by
 obtain ⟨t, rfl⟩ := h
 rw [List.append_assoc, List.getElem?_append_right (Nat.le_refl _), Nat.sub_self]; rfl
theorem tk_lt (h : pre ++ [x] <+: xs) : pre.length < xs.length := (List.getElem?_eq_some_iff.1 (tk_one h)).1
end
theorem sp_ext {V : Type} {x y : SpG V} (h1 : x.1 = y.1) (h2 : x.2.1 = y.2.1) (h3 : x.2.2 = y.2.2) : x = y := by
 obtain ⟨a, b, c⟩ := x
 obtain ⟨d, e, f⟩ := y
 simp only at h1 h2 h3
 rw [h1, h2, h3]
theorem RiseG.pre {V : Type} {xs pre : List (SpG V)} {x : SpG V} (hr : RiseG 0 xs) (h : pre ++ [x] <+: xs) : 0 ≤ x.1 ∧ x.1 ≤ x.2.1 ∧ x.2.1 ≤ 1114111 := hr.at (tk_one h)
end Go.FK
end

/- === PWordM === -/
section
/- PWords: the plain functions of chapter 05 (words): no program in sight. -/
namespace Go.FK
open Go
def blankB (r : Int) : Bool := r == 9 || r == 11 || r == 12 || r == 32 || r == 133 || r == 160 || r == 5760 || r == 8232 || r == 8233 || r == 8239 || r == 8287 || r == 12288 || (decide (8192 ≤ r) && decide (r ≤ 8202))
def runesN (s : List UInt8) : Nat → Nat → List Int
  | 0, _ => []
  | n + 1, pos => if pos < s.length then ((dec s pos).1 : Int) :: runesN s n (pos + (dec s pos).2) else []
theorem runesN_end {s : List UInt8} : ∀ {n pos : Nat}, s.length ≤ pos → runesN s n pos = []
 | 0, _, _ => rfl
 | n + 1, pos, h => by rw [runesN, if_neg (by omega)]
theorem runesN_fuel {s : List UInt8} : ∀ (n m pos : Nat), s.length - pos ≤ n → s.length - pos ≤ m → runesN s n pos = runesN s m pos := by
 intro n
 induction n with
 | zero => intro m pos h _; rw [runesN_end (by omega), runesN_end (by omega)]
 | succ n ih =>
  intro m pos hn hm
  by_cases h : pos < s.length
  ·cases m with
   | zero => omega
   | succ m =>
    have := dec_pos s pos
    rw [runesN, runesN, if_pos h, if_pos h, ih m _ (by omega) (by omega)]
  ·rw [runesN_end (by omega), runesN_end (by omega)]
def runesFrom (s : List UInt8) (pos : Nat) : List Int := runesN s (s.length - pos) pos
theorem vG {s : List UInt8} {pos : Nat} (h : pos < s.length) : runesFrom s pos = ((dec s pos).1 : Int) :: runesFrom s (pos + (dec s pos).2) := by
 have := dec_pos s pos
 unfold runesFrom
 rw [runesN_fuel (s.length - pos) (s.length - pos + 1) pos (by omega) (by omega), runesN, if_pos h]
 rw [runesN_fuel (s.length - pos) (s.length - (pos + (dec s pos).2)) _ (by omega) (by omega)]
theorem runesFrom_end {s : List UInt8} {pos : Nat} (h : s.length ≤ pos) : runesFrom s pos = [] := runesN_end h
def wordsN (s : List UInt8) : Nat → Nat → Int → List (Int × List UInt8)
  | 0, _, fr => if 0 ≤ fr then [(fr, s.drop fr.toNat)] else []
  | n + 1, pos, fr =>
    if pos < s.length then
      if blankB (dec s pos).1 = true then
        if 0 ≤ fr then (fr, (s.take pos).drop fr.toNat) :: wordsN s n (pos + (dec s pos).2) (-1) else wordsN s n (pos + (dec s pos).2) fr
      else if fr < 0 then wordsN s n (pos + (dec s pos).2) pos else wordsN s n (pos + (dec s pos).2) fr
    else if 0 ≤ fr then [(fr, s.drop fr.toNat)] else []
def wordsFrom (s : List UInt8) (pos : Nat) (fr : Int) : List (Int × List UInt8) := wordsN s (s.length - pos) pos fr
def wordsOf (s : List UInt8) : List (Int × List UInt8) := wordsFrom s 0 (-1)
def longN (b : Int) : Nat := if b < 128 then 1 else if b < 192 ∨ 247 < b then 0 else if b < 224 then 2 else if b < 240 then 3 else 4
def scalarB (r : Int) : Bool := decide (0 ≤ r) && decide (r ≤ 1114111) && (decide (r < 55296) || decide (57343 < r))
def widthN (r : Int) : Nat := if scalarB r = true then if r < 128 then 1 else if r < 2048 then 2 else if r < 65536 then 3 else 4 else 0
theorem uK (r : Int) : widthN r = 0 ∧ scalarB r = false ∨ widthN r = 1 ∧ scalarB r = true ∧ 0 ≤ r ∧ r < 128 ∨ widthN r = 2 ∧ scalarB r = true ∧ 128 ≤ r ∧ r < 2048 ∨ widthN r = 3 ∧ scalarB r = true ∧ 2048 ≤ r ∧ r < 65536 ∨ widthN r = 4 ∧ scalarB r = true ∧ 65536 ≤ r ∧ r ≤ 1114111 := by
 unfold widthN
 cases h : scalarB r with
 | false => simp
 | true =>
  have a : 0 ≤ r ∧ r ≤ 1114111 := by simp [scalarB] at h; omega
  simp only [if_true]
  split
  ·simp; omega
  ·split
   ·simp; omega
   ·split
    ·simp; omega
    ·simp; omega
theorem valid_scalar (r : Int) : Utf8.valid r = scalarB r := by
 rw [Bool.eq_iff_iff]; simp [Utf8.valid, scalarB]; omega
theorem enc_ok {r : Int} {n : Nat} (h : scalarB r = true) (hn : r = (n : Int)) : encL [r] = if n < 128 then [UInt8.ofNat n] else if n < 2048 then [UInt8.ofNat (192 + n / 64), UInt8.ofNat (128 + n % 64)] else if n < 65536 then [UInt8.ofNat (224 + n / 4096), UInt8.ofNat (128 + n / 64 % 64), UInt8.ofNat (128 + n % 64)] else [UInt8.ofNat (240 + n / 262144), UInt8.ofNat (128 + n / 4096 % 64), UInt8.ofNat (128 + n / 64 % 64), UInt8.ofNat (128 + n % 64)] := by
 subst hn
 simp only [encL, List.flatMap_cons, List.flatMap_nil, List.append_nil, Utf8.encode, valid_scalar, h, if_true, Int.toNat_natCast]
 repeat' split
 all_goals rfl
theorem vD (n : Nat) : bytesI [(n : Int)] = [UInt8.ofNat n] := by simp [bytesI]
theorem seq0 {r : Int} (h : widthN r = 0) : [239, 191, 189] = encL [r] := by
 have hs : scalarB r = false := by have := uK r; grind
 simp only [encL, List.flatMap_cons, List.flatMap_nil, List.append_nil, Utf8.encode, valid_scalar, hs, Bool.false_eq_true, if_false, Utf8.runeError]
 decide
theorem seq1 {r : Int} (h : widthN r = 1) : bytesI [r] = encL [r] := by
 have hs : scalarB r = true ∧ 0 ≤ r ∧ r < 128 := by have := uK r; grind
 obtain ⟨n, rfl⟩ : ∃ n : Nat, r = (n : Int) := ⟨r.toNat, by omega⟩
 rw [enc_ok hs.1 rfl, if_pos (by omega), vD]
theorem seq2 {r : Int} (h : widthN r = 2) : bytesI [192 + r / 64] ++ bytesI [128 + r % 64] = encL [r] := by
 have hs : scalarB r = true ∧ 128 ≤ r ∧ r < 2048 := by have := uK r; grind
 obtain ⟨n, rfl⟩ : ∃ n : Nat, r = (n : Int) := ⟨r.toNat, by omega⟩
 rw [enc_ok hs.1 rfl, if_neg (by omega), if_pos (by omega)]
 rw [show (192 + (n : Int) / 64) = ((192 + n / 64 : Nat) : Int) by omega, show (128 + (n : Int) % 64) = ((128 + n % 64 : Nat) : Int) by omega, vD, vD]; rfl
theorem seq3 {r : Int} (h : widthN r = 3) : bytesI [224 + r / 4096] ++ bytesI [128 + r / 64 % 64] ++ bytesI [128 + r % 64] = encL [r] := by
 have hs : scalarB r = true ∧ 2048 ≤ r ∧ r < 65536 := by have := uK r; grind
 obtain ⟨n, rfl⟩ : ∃ n : Nat, r = (n : Int) := ⟨r.toNat, by omega⟩
 rw [enc_ok hs.1 rfl, if_neg (by omega), if_neg (by omega), if_pos (by omega)]
 rw [show (224 + (n : Int) / 4096) = ((224 + n / 4096 : Nat) : Int) by omega, show (128 + (n : Int) / 64 % 64) = ((128 + n / 64 % 64 : Nat) : Int) by omega, show (128 + (n : Int) % 64) = ((128 + n % 64 : Nat) : Int) by omega, vD, vD, vD]; rfl
theorem seq4 {r : Int} (h : widthN r = 4) : bytesI [240 + r / 262144] ++ bytesI [128 + r / 4096 % 64] ++ bytesI [128 + r / 64 % 64] ++ bytesI [128 + r % 64] = encL [r] := by
 have hs : scalarB r = true ∧ 65536 ≤ r ∧ r ≤ 1114111 := by have := uK r; grind
 obtain ⟨n, rfl⟩ : ∃ n : Nat, r = (n : Int) := ⟨r.toNat, by omega⟩
 rw [enc_ok hs.1 rfl, if_neg (by omega), if_neg (by omega), if_neg (by omega)]
 rw [show (240 + (n : Int) / 262144) = ((240 + n / 262144 : Nat) : Int) by omega, show (128 + (n : Int) / 4096 % 64) = ((128 + n / 4096 % 64 : Nat) : Int) by omega, show (128 + (n : Int) / 64 % 64) = ((128 + n / 64 % 64 : Nat) : Int) by omega, show (128 + (n : Int) % 64) = ((128 + n % 64 : Nat) : Int) by omega, vD, vD, vD, vD]; rfl
theorem qM (b : Int) : (bytesI [b]).length = 1 := rfl
theorem enc_len (x : Int) : (Utf8.encode x).data.toList.length ≤ 4 := by
 unfold Utf8.encode; simp only
 repeat' split
 all_goals simp
theorem encL_len (l : List Int) : (encL l).length ≤ 4 * l.length := by
 induction l with
 | nil => simp [encL]
 | cons x l ih =>
  have := enc_len x
  simp only [encL, List.flatMap_cons, List.length_append, List.length_cons] at ih ⊢
  omega
theorem encTake_len (l : List Int) (i : Nat) : (encL (l.take i)).length ≤ 4 * l.length := by
 have := encL_len (l.take i)
 have h := List.length_take_le i l
 have a : (l.take i).length ≤ l.length := by rw [List.length_take]; omega
 omega
theorem encL1_len (r : Int) : (encL [r]).length ≤ 4 := by simpa using encL_len [r]
theorem take_succ_some {α : Type} {l : List α} {i : Nat} {x : α} (h : l[i]? = some x) : l.take (i + 1) = l.take i ++ [x] := by
 rw [List.take_add_one, h]; rfl
theorem encL_take {l : List Int} {i : Nat} {x : Int} (h : l[i]? = some x) : encL (l.take i) ++ encL [x] = encL (l.take (i + 1)) := by
 rw [take_succ_some h]; simp [encL]
theorem longN_le (b : Int) : longN b ≤ 4 := by
 unfold longN
 repeat' split
 all_goals omega
def bitsT : List Nat := [0, 127, 31, 15, 7]
def leastT : List Nat := [0, 0, 128, 2048, 65536]
theorem bitsT_len : bitsT.length = 5 := rfl
theorem leastT_len : leastT.length = 5 := rfl
def atN (s : List UInt8) (p : Nat) : Nat → Nat → Nat → Nat × Nat
  | 0, _, x => (0, x)
  | f + 1, i, x => match s[p + i]? with
    | none => (11, 0)
    | some b => if b.toNat < 128 ∨ 191 < b.toNat then (12, 0) else atN s p f (i + 1) (x * 64 + b.toNat - 128)
def finF (n : Nat) (r : Nat × Nat) : Nat × Int × Int :=
  if r.1 ≠ 0 then (1, 65533, r.1) else if r.2 < leastT.getD n 0 then (1, 65533, 13) else if 55296 ≤ r.2 ∧ r.2 ≤ 57343 then (1, 65533, 14) else if 1114111 < r.2 then (1, 65533, 15) else (n, r.2, 0)
def atG (s : List UInt8) (p n i x : Nat) : Nat × Int × Int := finF n (atN s p (n - i) i x)
def atF (s : List UInt8) (p : Nat) : Nat × Int × Int :=
  let c := (s.getD p 0).toNat
  if longN c = 0 then (1, 65533, 10) else atG s p (longN c) 1 (c &&& bitsT.getD (longN c) 0)
theorem at_lead {s : List UInt8} {p : Nat} {c : UInt8} (hc : s[p]? = some c) (h : longN ((c.toNat : Nat) : Int) = 0) : atF s p = (1, 65533, 10) := by
 unfold atF
 rw [List.getD_eq_getElem?_getD, hc]
 simp [h]
theorem at_start {s : List UInt8} {p m : Nat} {c c2 : UInt8} (hc : s[p]? = some c) (hc2 : s[p]? = some c2) (h : ¬ longN ((c.toNat : Nat) : Int) = 0) (hm : bitsT[longN ((c.toNat : Nat) : Int)]? = some m) : atG s p (longN ((c.toNat : Nat) : Int)) 1 (c2.toNat &&& m) = atF s p := by
 obtain rfl : c = c2 := by rw [hc] at hc2; exact Option.some.inj hc2
 unfold atF
 rw [List.getD_eq_getElem?_getD, hc]
 simp [h, hm, List.getD]
theorem at_cut {s : List UInt8} {p n i x : Nat} (hi : i < n) (h : s.length ≤ p + i) : atG s p n i x = (1, 65533, 11) := by
 unfold atG
 obtain ⟨f, hf⟩ : ∃ f, n - i = f + 1 := ⟨n - i - 1, by omega⟩
 rw [hf, atN, List.getElem?_eq_none (by omega)]
 rfl
theorem at_tail {s : List UInt8} {p n i x : Nat} {b : UInt8} (hi : i < n) (hb : s[p + i]? = some b) (h : b.toNat < 128 ∨ 191 < b.toNat) : atG s p n i x = (1, 65533, 12) := by
 unfold atG
 obtain ⟨f, hf⟩ : ∃ f, n - i = f + 1 := ⟨n - i - 1, by omega⟩
 rw [hf, atN, hb]
 simp only [h, if_true]
 rfl
theorem at_step {s : List UInt8} {p n i x : Nat} {b : UInt8} (hi : i < n) (hb : s[p + i]? = some b) (h1 : 128 ≤ b.toNat) (h2 : b.toNat ≤ 191) : atG s p n i x = atG s p n (i + 1) (x * 64 + b.toNat - 128) := by
 unfold atG
 obtain ⟨f, hf⟩ : ∃ f, n - i = f + 1 := ⟨n - i - 1, by omega⟩
 rw [hf, atN, hb]
 simp only [show ¬ (b.toNat < 128 ∨ 191 < b.toNat) by omega, if_false]
 rw [show n - (i + 1) = f by omega]
theorem at_fin {s : List UInt8} {p n i x m : Nat} (hi : n ≤ i) (hm : leastT[n]? = some m) : atG s p n i x = if x < m then (1, 65533, 13) else if 55296 ≤ x ∧ x ≤ 57343 then (1, 65533, 14) else if 1114111 < x then (1, 65533, 15) else (n, (x : Int), 0) := by
 unfold atG finF
 rw [show n - i = 0 by omega, atN, List.getD_eq_getElem?_getD, hm]
 rfl
def atH (s : List UInt8) (p i x : Nat) : Nat × Int × Int := atG s p (longN (((s.getD p 0).toNat : Nat) : Int)) i x
theorem atH_eq {s : List UInt8} {p i x : Nat} {c : UInt8} (hc : s[p]? = some c) : atH s p i x = atG s p (longN ((c.toNat : Nat) : Int)) i x := by
 unfold atH; rw [List.getD_eq_getElem?_getD, hc]; rfl
theorem at_over {s : List UInt8} {p n i x m : Nat} (hi : n ≤ i) (hm : leastT[n]? = some m) (h : x < m) : atG s p n i x = (1, 65533, 13) := by rw [at_fin hi hm, if_pos h]
theorem at_half {s : List UInt8} {p n i x m : Nat} (hi : n ≤ i) (hm : leastT[n]? = some m) (h : m ≤ x) (h1 : 55296 ≤ x) (h2 : x ≤ 57343) : atG s p n i x = (1, 65533, 14) := by rw [at_fin hi hm, if_neg (by omega), if_pos ⟨h1, h2⟩]
theorem at_past {s : List UInt8} {p n i x m : Nat} (hi : n ≤ i) (hm : leastT[n]? = some m) (h : m ≤ x) (h1 : 1114111 < x) : atG s p n i x = (1, 65533, 15) := by rw [at_fin hi hm, if_neg (by omega), if_neg (by omega), if_pos h1]
theorem at_good {s : List UInt8} {p n i x m : Nat} (hi : n ≤ i) (hm : leastT[n]? = some m) (h : m ≤ x) (h1 : x < 55296 ∨ 57343 < x) (h2 : x ≤ 1114111) : atG s p n i x = (n, (x : Int), 0) := by rw [at_fin hi hm, if_neg (by omega), if_neg (by omega), if_neg (by omega)]
theorem bitsT_le {n m : Nat} (hm : bitsT[n]? = some m) : m ≤ 127 := by
 have : ∀ y ∈ bitsT, y ≤ 127 := by decide
 exact this m (List.mem_of_getElem? hm)
theorem and_bits {n m x : Nat} (hm : bitsT[n]? = some m) : x &&& m ≤ 127 := by
 have : ∀ y ∈ bitsT, y ≤ 127 := by decide
 have a := this m (List.mem_of_getElem? hm)
 have := Nat.and_le_right (n := x) (m := m)
 omega
def encSpot (x : Nat × Nat × Int × Int) : List Value := [.int .i64 (x.1 : Int), .int .i64 (x.2.1 : Int), .int .i32 x.2.2.1, .int .i64 x.2.2.2]
theorem finF_w {n : Nat} {r : Nat × Nat} (h : 1 ≤ n) (h4 : n ≤ 4) : 1 ≤ (finF n r).1 ∧ (finF n r).1 ≤ 4 := by
 unfold finF
 repeat' split
 all_goals simp
 exact ⟨h, h4⟩
theorem atF_w (s : List UInt8) (p : Nat) : 1 ≤ (atF s p).1 ∧ (atF s p).1 ≤ 4 := by
 unfold atF
 simp only
 split
 ·simp
 ·rename_i h
  have := longN_le ((s.getD p 0).toNat : Nat)
  exact finF_w (by omega) this
def spotsN (s : List UInt8) : Nat → Nat → List (Nat × Nat × Int × Int)
  | 0, _ => []
  | f + 1, p => if p < s.length then (p, (atF s p).1, (atF s p).2.1, (atF s p).2.2) :: spotsN s f (p + (atF s p).1) else []
theorem spotsN_end {s : List UInt8} : ∀ {n p : Nat}, s.length ≤ p → spotsN s n p = []
 | 0, _, _ => rfl
 | n + 1, p, h => by rw [spotsN, if_neg (by omega)]
theorem spotsN_fuel {s : List UInt8} : ∀ (n m p : Nat), s.length - p ≤ n → s.length - p ≤ m → spotsN s n p = spotsN s m p := by
 intro n
 induction n with
 | zero => intro m p h _; rw [spotsN_end (by omega), spotsN_end (by omega)]
 | succ n ih =>
  intro m p hn hm
  by_cases h : p < s.length
  ·cases m with
   | zero => omega
   | succ m =>
    have := atF_w s p
    rw [spotsN, spotsN, if_pos h, if_pos h, ih m _ (by omega) (by omega)]
  ·rw [spotsN_end (by omega), spotsN_end (by omega)]
def spotsFrom (s : List UInt8) (p : Nat) : List (Nat × Nat × Int × Int) := spotsN s (s.length - p) p
theorem spotsFrom_end {s : List UInt8} {p : Nat} (h : s.length ≤ p) : spotsFrom s p = [] := spotsN_end h
theorem spotsFrom_step {s : List UInt8} {p : Nat} (h : p < s.length) : spotsFrom s p = (p, (atF s p).1, (atF s p).2.1, (atF s p).2.2) :: spotsFrom s (p + (atF s p).1) := by
 have := atF_w s p
 unfold spotsFrom
 rw [spotsN_fuel (s.length - p) (s.length - p + 1) p (by omega) (by omega), spotsN, if_pos h]
 rw [spotsN_fuel (s.length - p) (s.length - (p + (atF s p).1)) _ (by omega) (by omega)]
theorem spotsN_len (s : List UInt8) : ∀ (n p : Nat), (spotsN s n p).length ≤ n
 | 0, _ => by simp [spotsN]
 | n + 1, p => by
  unfold spotsN
  split
  ·simp [spotsN_len s n]
  ·simp
theorem spots_len (s : List UInt8) : (spotsFrom s 0).length ≤ s.length := spotsN_len s _ _
def rrunes (s : List UInt8) : List Int := (spotsFrom s 0).map fun x => x.2.2.1
def dropW (r : Int) : Bool := blankB r || r == 95 || r == 45
def lowerI (r : Int) : Int := if 65 ≤ r ∧ r ≤ 90 then r + 32 else r
def looseL (l : List Int) : List Int := (l.filter (fun r => !dropW r)).map lowerI
theorem wT (r : Int) (l : List Int) : looseL (r :: l) = if dropW r then looseL l else lowerI r :: looseL l := by
 cases h : dropW r <;> simp [looseL, h]
def looseS (s : List UInt8) : List UInt8 := encL (looseL (runesFrom s 0))
def alikeB (a b : List UInt8) : Bool := decide (looseS a = looseS b)
def shortTab : List (List UInt8) := [[], [76], [82], [65, 76], [69, 78], [69, 83], [69, 84], [65, 78], [67, 83], [78, 83, 77], [66, 78], [66], [83], [87, 83], [79, 78], [76, 82, 69], [76, 82, 79], [82, 76, 69], [82, 76, 79], [80, 68, 70], [76, 82, 73], [82, 76, 73], [70, 83, 73], [80, 68, 73]]
def longTab : List (List UInt8) := [[], [76, 101, 102, 116, 95, 84, 111, 95, 82, 105, 103, 104, 116], [82, 105, 103, 104, 116, 95, 84, 111, 95, 76, 101, 102, 116], [65, 114, 97, 98, 105, 99, 95, 76, 101, 116, 116, 101, 114], [69, 117, 114, 111, 112, 101, 97, 110, 95, 78, 117, 109, 98, 101, 114], [69, 117, 114, 111, 112, 101, 97, 110, 95, 83, 101, 112, 97, 114, 97, 116, 111, 114], [69, 117, 114, 111, 112, 101, 97, 110, 95, 84, 101, 114, 109, 105, 110, 97, 116, 111, 114], [65, 114, 97, 98, 105, 99, 95, 78, 117, 109, 98, 101, 114], [67, 111, 109, 109, 111, 110, 95, 83, 101, 112, 97, 114, 97, 116, 111, 114], [78, 111, 110, 115, 112, 97, 99, 105, 110, 103, 95, 77, 97, 114, 107], [66, 111, 117, 110, 100, 97, 114, 121, 95, 78, 101, 117, 116, 114, 97, 108], [80, 97, 114, 97, 103, 114, 97, 112, 104, 95, 83, 101, 112, 97, 114, 97, 116, 111, 114], [83, 101, 103, 109, 101, 110, 116, 95, 83, 101, 112, 97, 114, 97, 116, 111, 114], [87, 104, 105, 116, 101, 95, 83, 112, 97, 99, 101], [79, 116, 104, 101, 114, 95, 78, 101, 117, 116, 114, 97, 108], [76, 101, 102, 116, 95, 84, 111, 95, 82, 105, 103, 104, 116, 95, 69, 109, 98, 101, 100, 100, 105, 110, 103], [76, 101, 102, 116, 95, 84, 111, 95, 82, 105, 103, 104, 116, 95, 79, 118, 101, 114, 114, 105, 100, 101], [82, 105, 103, 104, 116, 95, 84, 111, 95, 76, 101, 102, 116, 95, 69, 109, 98, 101, 100, 100, 105, 110, 103], [82, 105, 103, 104, 116, 95, 84, 111, 95, 76, 101, 102, 116, 95, 79, 118, 101, 114, 114, 105, 100, 101], [80, 111, 112, 95, 68, 105, 114, 101, 99, 116, 105, 111, 110, 97, 108, 95, 70, 111, 114, 109, 97, 116], [76, 101, 102, 116, 95, 84, 111, 95, 82, 105, 103, 104, 116, 95, 73, 115, 111, 108, 97, 116, 101], [82, 105, 103, 104, 116, 95, 84, 111, 95, 76, 101, 102, 116, 95, 73, 115, 111, 108, 97, 116, 101], [70, 105, 114, 115, 116, 95, 83, 116, 114, 111, 110, 103, 95, 73, 115, 111, 108, 97, 116, 101], [80, 111, 112, 95, 68, 105, 114, 101, 99, 116, 105, 111, 110, 97, 108, 95, 73, 115, 111, 108, 97, 116, 101]]
def shortS (c : Int) : List UInt8 := if 1 ≤ c ∧ c ≤ 23 then shortTab.getD c.toNat [] else []
def longS (c : Int) : List UInt8 := if 1 ≤ c ∧ c ≤ 23 then longTab.getD c.toNat [] else []
theorem shortTab_len : shortTab.length = 24 := rfl
theorem longTab_len : longTab.length = 24 := rfl
theorem shortS_none {c : Int} (h : c < 1 ∨ 23 < c) : shortS c = [] := by unfold shortS; rw [if_neg (by omega)]
theorem longS_none {c : Int} (h : c < 1 ∨ 23 < c) : longS c = [] := by unfold longS; rw [if_neg (by omega)]
theorem shortS_tab {c : Int} {x : List UInt8} (h : 0 ≤ c) (hx : shortTab[c.toNat]? = some x) : x = shortS c := by
 have e : shortTab.getD c.toNat [] = x := by rw [List.getD_eq_getElem?_getD, hx]; rfl
 by_cases a : c = 0
 ·subst a; rw [← e]; rfl
 ·obtain ⟨hlt, _⟩ := List.getElem?_eq_some_iff.1 hx
  rw [shortTab_len] at hlt
  unfold shortS; rw [if_pos (by omega), e]
theorem longS_tab {c : Int} {x : List UInt8} (h : 0 ≤ c) (hx : longTab[c.toNat]? = some x) : x = longS c := by
 have e : longTab.getD c.toNat [] = x := by rw [List.getD_eq_getElem?_getD, hx]; rfl
 by_cases a : c = 0
 ·subst a; rw [← e]; rfl
 ·obtain ⟨hlt, _⟩ := List.getElem?_eq_some_iff.1 hx
  rw [longTab_len] at hlt
  unfold longS; rw [if_pos (by omega), e]
def shortF (c : Int) : List UInt8 := if 15 ≤ c then shortS c else []
def longF (c : Int) : List UInt8 := if 15 ≤ c then longS c else []
theorem shortF_eq {c : Int} (h : c < 1 ∨ 15 ≤ c) : shortF c = shortS c := by
 unfold shortF
 split
 ·rfl
 ·unfold shortS; rw [if_neg (by omega)]
theorem longF_eq {c : Int} (h : c < 1 ∨ 15 ≤ c) : longF c = longS c := by
 unfold longF
 split
 ·rfl
 ·unfold longS; rw [if_neg (by omega)]
theorem shortF_none {c : Int} (h : c < 15 ∨ 23 < c) : shortF c = [] := by
 unfold shortF
 split
 ·unfold shortS; rw [if_neg (by omega)]
 ·rfl
theorem longF_none {c : Int} (h : c < 15 ∨ 23 < c) : longF c = [] := by
 unfold longF
 split
 ·unfold longS; rw [if_neg (by omega)]
 ·rfl
theorem tab_ne : ∀ c : Nat, c < 23 → shortTab.getD (c + 1) [] ≠ [] ∧ longTab.getD (c + 1) [] ≠ [] := by decide
theorem shortS_nil {c : Int} : shortS c = [] ↔ ¬ (1 ≤ c ∧ c ≤ 23) := by
 unfold shortS
 split
 ·rename_i h
  have := (tab_ne (c.toNat - 1) (by omega)).1
  rw [show c.toNat - 1 + 1 = c.toNat by omega] at this
  exact ⟨fun e => absurd e this, fun e => absurd h e⟩
 ·rename_i h; exact ⟨fun _ => h, fun _ => rfl⟩
theorem longS_nil {c : Int} : longS c = [] ↔ ¬ (1 ≤ c ∧ c ≤ 23) := by
 unfold longS
 split
 ·rename_i h
  have := (tab_ne (c.toNat - 1) (by omega)).2
  rw [show c.toNat - 1 + 1 = c.toNat by omega] at this
  exact ⟨fun e => absurd e this, fun e => absurd h e⟩
 ·rename_i h; exact ⟨fun _ => h, fun _ => rfl⟩
theorem tab_len : ∀ c : Nat, c < 23 → (shortTab.getD (c + 1) []).length ≤ 30 ∧ (longTab.getD (c + 1) []).length ≤ 30 := by decide
theorem uD (c : Int) : (shortS c).length ≤ 30 := by
 unfold shortS
 split
 ·have := (tab_len (c.toNat - 1) (by omega)).1
  rwa [show c.toNat - 1 + 1 = c.toNat by omega] at this
 ·simp
theorem Zf (c : Int) : (longS c).length ≤ 30 := by
 unfold longS
 split
 ·have := (tab_len (c.toNat - 1) (by omega)).2
  rwa [show c.toNat - 1 + 1 = c.toNat by omega] at this
 ·simp
def toldE (c : Int) : Int := if 1 ≤ c ∧ c ≤ 23 then 0 else 2
def classN (name : List UInt8) : Nat → Int → Int × Int
  | 0, _ => (0, 50)
  | n + 1, c => if c ≤ 23 then if alikeB name (shortS c) = true then (c, 0) else if alikeB name (longS c) = true then (c, 0) else classN name n (c + 1) else (0, 50)
def classFrom (name : List UInt8) (c : Int) : Int × Int := classN name (24 - c).toNat c
theorem wX {name : List UInt8} {c : Int} (h : c ≤ 23) : classFrom name c = if alikeB name (shortS c) = true then (c, 0) else if alikeB name (longS c) = true then (c, 0) else classFrom name (c + 1) := by
 unfold classFrom
 obtain ⟨n, hn⟩ : ∃ n, (24 - c).toNat = n + 1 := ⟨(24 - c).toNat - 1, by omega⟩
 rw [hn, classN, if_pos h, show (24 - (c + 1)).toNat = n by omega]
theorem classFrom_end {name : List UInt8} {c : Int} (h : 23 < c) : classFrom name c = (0, 50) := by
 unfold classFrom
 rw [show (24 - c).toNat = 0 by omega]; rfl
def classF (name : List UInt8) : Int × Int := classFrom name 1
def cstep (st : List Int × Int × Int) (x : Int × List UInt8) : List Int × Int × Int :=
  if st.2.2 ≠ 0 then st else if (classF x.2).2 ≠ 0 then ([], x.1, (classF x.2).2) else (st.1 ++ [(classF x.2).1], 0, 0)
def classesF (s : List UInt8) : List Int × Int × Int := (wordsOf s).foldl cstep ([], 0, 0)
def letterS (c : Int) : List UInt8 := if c = 0 then [110] else if c = 1 then [111] else if c = 2 then [99] else []
def letterE (c : Int) : Int := if c = 0 ∨ c = 1 ∨ c = 2 then 0 else 2
def sideTab : List (List UInt8) := [[78, 111, 110, 101], [79, 112, 101, 110], [67, 108, 111, 115, 101]]
def sideN (name : List UInt8) : List (List UInt8) → Int → Int × Int
  | [], _ => (0, 51)
  | x :: l, c => if alikeB name (letterS c) = true then (c, 0) else if alikeB name x = true then (c, 0) else sideN name l (c + 1)
def sideFrom (name : List UInt8) (k : Nat) : Int × Int := sideN name (sideTab.drop k) k
def sideF (name : List UInt8) : Int × Int := sideFrom name 0
end Go.FK
end

/- === PLapart === -/
section
/- Plain laws of chapter 3: two texts, one behind the other: the lines of both, those of the second counted on. -/
namespace Go.FK
open Go Go.RowKit
def shP (n : Nat) (p : Nat × Nat × Nat) : Nat × Nat × Nat := (p.1 + n, p.2.1 + n, p.2.2 + n)
def shT (n : Nat) (x : Int × List UInt8) : Int × List UInt8 := (x.1 + n, x.2)
def shL (n : Nat) (x : LineD) : LineD := (x.1 + n, x.2)
section
variable {a b : List UInt8}
end
def shI (n i : Nat) (l : List LineD) : List LineD := (l.take i).map (shL n) ++ l.drop i
section
variable {F : Nat} {w w' : World} {B E k : Nat} {enc : LineV → List Value} {v u q : Value} {xs ys : List LineV}
end
end Go.FK
end

/- === FKai === -/
section
/- FKai: a call walked in place; an iterator that hands its yield on to another one. My own text. -/
namespace Go.FK
open Go Go.RowKit
section
variable {r : Option Nat} {P : Program} {n : Nat} {Q : Post} {s : Fm} {w : World} {ops : Array Oper} {rest : List Oper}
variable {d : Option Tmp} {ty : TypeId} {pos : String} {af : Array Edge}
theorem vQ {op : Op} (f : FuncId) (args : List Value) (hrun : (execOp (s.ev n) ⟨d, op, ty, pos, af, none⟩).run P w = .ok (.enter f args.toArray) w) (hd : notDefer op = true)
  (hc : Calls P f args.toArray w (Ret fun v w' => L r P n ops Q rest (s.put d v) w')) : L r P n ops Q (⟨d, op, ty, pos, af, none⟩ :: rest) s w :=
 L_call f args hrun hd hc (fun _ _ h => h)
end
theorem iter_tail {α : Type} {P : Program} {g : FuncId} {lb : List Value} {encs : α → List Value} {els : List α} {N N1 : World → Prop} {l : Nat} {J Jx : Nat → List α → World → Prop} {w w1 : World}
  (hI : Iter P g lb encs els N1) (h1 : N1 w1) (hle : w.heap.size ≤ w1.heap.size)
  (h0 : ∀ A, Below w1.heap.size w1 A → J A.heap.size [] A)
  (hJs : ∀ K pre A B, J K pre A → Ch (Iv w.heap.size K) A B → J K pre B)
  (hJxs : ∀ K pre A B, Jx K pre A → Ch (Iv w.heap.size K) A B → Jx K pre B)
  (hNb : ∀ A, Below w1.heap.size w1 A → N A)
  (hNc : ∀ K A B, N A → Ch (Iv w1.heap.size K) A B → N B)
  (hN1 : ∀ K A B, w1.heap.size ≤ K → N1 A → N B → Kp w.heap.size K A B → N1 B)
  (hY : ∀ K pre x A, J K pre A → N A → w.heap.size ≤ K → K ≤ A.heap.size → pre ++ [x] <+: els → YieldAt (Fw none) 0 P l (encs x).toArray A fun e A' =>
   (e = .returned (.bool true) ∧ J K (pre ++ [x]) A' ∧ Kp w.heap.size K A A' ∧ N A') ∨ (e = .returned (.bool false) ∧ Jx K (pre ++ [x]) A' ∧ Kp w.heap.size K A A')) :
  Calls P g (.func (.yield l) #[] #[] :: lb).toArray w1 (Ret fun _ w' => w1.heap.size ≤ w'.heap.size ∧ ((∃ K, J K els w') ∨ (∃ K pre x, pre ++ [x] <+: els ∧ Jx K (pre ++ [x]) w'))) := by
 have hiv : ∀ K k, Iv w1.heap.size K k → Iv w.heap.size K k := fun K k h => ⟨Nat.le_trans hle h.1, h.2⟩
 have h := hI l (fun K pre A => J K pre A ∧ N A) Jx w1 h1 (fun A hA => ⟨h0 A hA, hNb A hA⟩)
  (fun K pre A B h hc => ⟨hJs K pre A B h.1 (hc.mono (hiv K)), hNc K A B h.2 hc⟩)
  (fun K pre A B h hc => hJxs K pre A B h (hc.mono (hiv K)))
  (fun K pre x A hj hn1 hK hKA hp => by
   refine YieldAt.mono (hY K pre x A hj.1 hj.2 (Nat.le_trans hle hK) hKA hp) ?_
   rintro e A' (⟨he, b, a, c⟩ | ⟨he, b, a⟩)
   ·exact .inl ⟨he, ⟨b, c⟩, a.narrow hle, hN1 K A A' hK hn1 c a⟩
   ·exact .inr ⟨he, b, a.narrow hle⟩)
 refine Calls.mono h ?_
 rintro e w' ⟨v, he, b, a⟩
 refine ⟨v, he, b, ?_⟩
 rcases a with ⟨K, a⟩ | a
 ·exact .inl ⟨K, a.1⟩
 ·exact .inr a
theorem NRow.ch_mut {F B E k b : Nat} {w w' : World} {enc : LineV → List Value} {v vm : Value} {xs : List LineV} (h : NRow F w B E k enc v xs) (hc : Ch (Dm b vm) w w') (h1 : ¬ NOwn v xs b) (h2 : NAp v xs vm.ownBlock) : NRow F w' B E k enc v xs :=
 ⟨h.1.ch_mut hc (fun e => h1 (.inl e)) h2.1, fun x hx => (h.2 x hx).ch_mut hc (fun e => h1 (.inr ⟨x, hx, e⟩)) (h2.2 x hx)⟩
def encVal (v : Value) : List Value := [v]
theorem pick4 {α : Type} {a b c d e : α} {n : Nat} (h : ([a, b, c, d] : List α)[n]? = some e) : (n = 0 ∧ e = a) ∨ (n = 1 ∧ e = b) ∨ (n = 2 ∧ e = c) ∨ (n = 3 ∧ e = d) := by
 match n, h with
 | 0, h => exact .inl ⟨rfl, (Option.some.inj h).symm⟩
 | 1, h => exact .inr (.inl ⟨rfl, (Option.some.inj h).symm⟩)
 | 2, h => exact .inr (.inr (.inl ⟨rfl, (Option.some.inj h).symm⟩))
 | 3, h => exact .inr (.inr (.inr ⟨rfl, (Option.some.inj h).symm⟩))
end Go.FK
end

/- === PCls === -/
section
/- PCls: what a file of classes says: lines taken one by one, the first that is wrong; what the table tells. My own text. -/
namespace Go.FK
open Go Go.RowKit
def encSpanC (x : SpI) : List Value := [.int .i32 x.1, .int .i32 x.2.1, .int .u8 x.2.2]
abbrev eqC := eqI
theorem eqC_y {a b : Int} (h : a = b) : eqC a b = true := eqI_y h
theorem eqC_n {a b : Int} (h : a ≠ b) : eqC a b = false := eqI_n h
theorem hex_rng (s : List UInt8) : 0 ≤ (hexF s).1 ∧ (hexF s).1 ≤ 1114111 := by
 unfold hexF
 split
 ·exact ⟨Int.le_refl _, by simp⟩
 ·split
  ·exact ⟨Int.le_refl _, by simp⟩
  ·split
   ·exact ⟨Int.le_refl _, by simp⟩
   ·exact ⟨by simp only; omega, by simp only; omega⟩
theorem span_rng (s : List UInt8) : (0 ≤ (spanF s).1 ∧ (spanF s).1 ≤ 1114111) ∧ (0 ≤ (spanF s).2.1 ∧ (spanF s).2.1 ≤ 1114111) := by
 unfold spanF
 split
 ·split
  ·exact ⟨⟨Int.le_refl _, by simp⟩, Int.le_refl _, by simp⟩
  ·exact ⟨hex_rng _, hex_rng _⟩
 ·split
  ·exact ⟨⟨Int.le_refl _, by simp⟩, Int.le_refl _, by simp⟩
  ·split
   ·exact ⟨⟨Int.le_refl _, by simp⟩, Int.le_refl _, by simp⟩
   ·exact ⟨hex_rng _, hex_rng _⟩
def toldC (f : List (List UInt8)) (wrong : Int) : Int × Int × Int × Int :=
  if f.length ≠ 2 then (0, 0, 0, wrong) else
  if (spanF (f.getD 0 [])).2.2 ≠ 0 then (0, 0, 0, (spanF (f.getD 0 [])).2.2)
  else ((spanF (f.getD 0 [])).1, (spanF (f.getD 0 [])).2.1, (classF (f.getD 1 [])).1, (classF (f.getD 1 [])).2)
theorem getF_at {l : List (List UInt8)} {i : Nat} {x : List UInt8} (h : l[i]? = some x) : l.getD i [] = x := by rw [List.getD_eq_getElem?_getD, h]; rfl
section
variable {f : List (List UInt8)} {a b : List UInt8} {wrong : Int}
theorem tc_no (h : f.length ≠ 2) : toldC f wrong = (0, 0, 0, wrong) := by unfold toldC; rw [if_pos h]
theorem tc_span (h : f.length = 2) (ha : f[0]? = some a) (h2 : (spanF a).2.2 ≠ 0) : toldC f wrong = (0, 0, 0, (spanF a).2.2) := by
 unfold toldC; rw [if_neg (by omega), getF_at ha, if_pos h2]
theorem tc_ok (h : f.length = 2) (ha : f[0]? = some a) (hb : f[1]? = some b) (h2 : (spanF a).2.2 = 0) : toldC f wrong = ((spanF a).1, (spanF a).2.1, (classF b).1, (classF b).2) := by
 unfold toldC; rw [if_neg (by omega), getF_at ha, getF_at hb, if_neg (by omega)]
theorem tc_rng (f : List (List UInt8)) (wrong : Int) : (0 ≤ (toldC f wrong).1 ∧ (toldC f wrong).1 ≤ 1114111) ∧ (0 ≤ (toldC f wrong).2.1 ∧ (toldC f wrong).2.1 ≤ 1114111) := by
 unfold toldC
 split
 ·exact ⟨⟨Int.le_refl _, by simp⟩, Int.le_refl _, by simp⟩
 ·split
  ·exact ⟨⟨Int.le_refl _, by simp⟩, Int.le_refl _, by simp⟩
  ·exact span_rng _
end
abbrev TabC := List SpI × List SpI × List SpI
def stepC (t : TabC) (no k : Int) (f : List (List UInt8)) : TabC × Int :=
  if k = 1 then
    if (toldC f 70).2.2.2 ≠ 0 then (t, (toldC f 70).2.2.2)
    else if putE t.2.1 (toldC f 70).1 (toldC f 70).2.1 ≠ 0 then (t, putE t.2.1 (toldC f 70).1 (toldC f 70).2.1)
    else ((putF eqI t.1 (toldC f 70).1 (toldC f 70).2.1 (toldC f 70).2.2.1, putF eqI t.2.1 (toldC f 70).1 (toldC f 70).2.1 no, t.2.2), putE t.1 (toldC f 70).1 (toldC f 70).2.1)
  else if k = 2 then (t, 33)
  else if k = 3 then
    if (toldC f 71).2.2.2 ≠ 0 then (t, (toldC f 71).2.2.2)
    else ((t.1, t.2.1, t.2.2 ++ [((toldC f 71).1, (toldC f 71).2.1, (toldC f 71).2.2.1)]), 0)
  else (t, 0)
def stepL (t : TabC) (x : LineD) : TabC × Int := stepC t x.1 x.2.1 x.2.2.2.1
def goC : TabC → List LineD → TabC × Int × Int
  | t, [] => (t, 0, 0)
  | t, x :: l => if (stepL t x).2 ≠ 0 then (t, x.1, (stepL t x).2) else goC (stepL t x).1 l
def clsF (s : List UInt8) : TabC × Int × Int :=
  if (badL (toldF s)).2 ≠ 0 then (([], [], []), (badL (toldF s)).1, (badL (toldF s)).2) else goC ([], [], []) (linesF (toldF s))
def wholeF (t : TabC) : List SpI := layAll eqI (layAll eqI (layF eqI [] 0 1114111 1) t.2.2) t.1
theorem cls_bad {s : List UInt8} (h : (badL (toldF s)).2 ≠ 0) : clsF s = (([], [], []), (badL (toldF s)).1, (badL (toldF s)).2) := by unfold clsF; rw [if_pos h]
theorem cls_ok1 {s : List UInt8} (h : (clsF s).2.2 = 0) : (badL (toldF s)).2 = 0 := by
 cases hq : decide ((badL (toldF s)).2 = 0) with
 | true => exact of_decide_eq_true hq
 | false => rw [cls_bad (of_decide_eq_false hq)] at h; exact h
def invC (s : List UInt8) (xs : List LineV) (k : Nat) (t : TabC) : Prop := (badL (toldF s)).2 = 0 ∧ goC t ((xs.drop k).map stripL) = goC ([], [], []) (linesF (toldF s))
theorem drop_line {α : Type} {l : List α} {i : Nat} {x : α} (h : l[i]? = some x) : l.drop i = x :: l.drop (i + 1) := by
 obtain ⟨b, a⟩ := List.getElem?_eq_some_iff.1 h
 rw [List.drop_eq_getElem_cons b, a]
section
variable {s : List UInt8} {xs : List LineV} {k : Nat} {t t' : TabC} {x : LineV} {no kd e : Int} {f : List (List UInt8)}
theorem invC_zero (hb : (badL (toldF s)).2 = 0) (h : xs.map stripL = linesF (toldF s)) : invC s xs 0 ([], [], []) := ⟨hb, by rw [List.drop_zero, h]⟩
theorem invC_on (h : invC s xs k t) (hx : xs[k]? = some x) (hs : stepC t x.1 x.2.1 x.fs = (t', 0)) : invC s xs (k + 1) t' := by
 refine ⟨h.1, ?_⟩
 rw [← h.2, drop_line hx, List.map_cons, goC, if_neg, show stepL t (stripL x) = (t', 0) from hs]
 rw [show stepL t (stripL x) = (t', 0) from hs]; simp
theorem invC_bad (h : invC s xs k t) (hx : xs[k]? = some x) (hs : (stepC t x.1 x.2.1 x.fs).2 = e) (he : e ≠ 0) : clsF s = (t, x.1, e) := by
 unfold clsF
 have a := h.2
 rw [drop_line hx, List.map_cons, goC, if_pos (by show (stepC t x.1 x.2.1 x.fs).2 ≠ 0; rw [hs]; exact he)] at a
 rw [if_neg (by rw [h.1]; decide), ← a, ← hs]; rfl
theorem invC_end (h : invC s xs k t) (hk : xs.length ≤ k) : clsF s = (t, 0, 0) := by
 unfold clsF
 have a := h.2
 rw [List.drop_eq_nil_of_le hk] at a
 rw [if_neg (by rw [h.1]; decide), ← a]; rfl
theorem st_data (hk : kd = 1) (h1 : (toldC f 70).2.2.2 = 0) (h2 : putE t.2.1 (toldC f 70).1 (toldC f 70).2.1 = 0) (h3 : putE t.1 (toldC f 70).1 (toldC f 70).2.1 = 0) :
  stepC t no kd f = ((putF eqI t.1 (toldC f 70).1 (toldC f 70).2.1 (toldC f 70).2.2.1, putF eqI t.2.1 (toldC f 70).1 (toldC f 70).2.1 no, t.2.2), 0) := by
 unfold stepC; rw [if_pos hk, if_neg (by omega), if_neg (by omega), h3]
theorem st_data1 (hk : kd = 1) (h1 : (toldC f 70).2.2.2 ≠ 0) : (stepC t no kd f).2 = (toldC f 70).2.2.2 := by unfold stepC; rw [if_pos hk, if_pos h1]
theorem st_data2 (hk : kd = 1) (h1 : (toldC f 70).2.2.2 = 0) (h2 : putE t.2.1 (toldC f 70).1 (toldC f 70).2.1 ≠ 0) : (stepC t no kd f).2 = putE t.2.1 (toldC f 70).1 (toldC f 70).2.1 := by
 unfold stepC; rw [if_pos hk, if_neg (by omega), if_pos h2]
theorem st_data3 (hk : kd = 1) (h1 : (toldC f 70).2.2.2 = 0) (h2 : putE t.2.1 (toldC f 70).1 (toldC f 70).2.1 = 0) : (stepC t no kd f).2 = putE t.1 (toldC f 70).1 (toldC f 70).2.1 := by
 unfold stepC; rw [if_pos hk, if_neg (by omega), if_neg (by omega)]
theorem st_blank (hk : kd = 0) : stepC t no kd f = (t, 0) := by unfold stepC; rw [if_neg (by omega), if_neg (by omega), if_neg (by omega)]
theorem st_order (hk : kd = 2) : (stepC t no kd f).2 = 33 := by unfold stepC; rw [if_neg (by omega), if_pos hk]
theorem st_miss (hk : kd = 3) (h1 : (toldC f 71).2.2.2 = 0) : stepC t no kd f = ((t.1, t.2.1, t.2.2 ++ [((toldC f 71).1, (toldC f 71).2.1, (toldC f 71).2.2.1)]), 0) := by
 unfold stepC; rw [if_neg (by omega), if_neg (by omega), if_pos hk, if_neg (by omega)]
theorem st_miss1 (hk : kd = 3) (h1 : (toldC f 71).2.2.2 ≠ 0) : (stepC t no kd f).2 = (toldC f 71).2.2.2 := by
 unfold stepC; rw [if_neg (by omega), if_neg (by omega), if_pos hk, if_pos h1]
end
theorem step_ok (t : TabC) (x : LineD) (h1 : MapOk eqI t.1) (h2 : MapOk eqI t.2.1) : MapOk eqI (stepL t x).1.1 ∧ MapOk eqI (stepL t x).1.2.1 ∧ (stepL t x).1.2.2.length ≤ t.2.2.length + 1 := by
 unfold stepL stepC
 repeat' split
 all_goals first | exact ⟨h1, h2, by simp only; omega⟩ | exact ⟨h1.put wQ _ _ _, h2.put wQ _ _ _, by simp only; omega⟩ | exact ⟨h1, h2, by simp⟩
theorem go_ok : ∀ (l : List LineD) (t : TabC), MapOk eqI t.1 → MapOk eqI t.2.1 → MapOk eqI (goC t l).1.1 ∧ MapOk eqI (goC t l).1.2.1 ∧ (goC t l).1.2.2.length ≤ t.2.2.length + l.length
 | [], t, h1, h2 => ⟨h1, h2, Nat.le_add_right _ _⟩
 | x :: l, t, h1, h2 => by
  unfold goC
  split
  ·exact ⟨h1, h2, Nat.le_add_right _ _⟩
  ·have a := step_ok t x h1 h2
   have ih := go_ok l _ a.1 a.2.1
   exact ⟨ih.1, ih.2.1, by rw [List.length_cons]; have := ih.2.2; have := a.2.2; omega⟩
theorem cls_ok (s : List UInt8) : MapOk eqI (clsF s).1.1 ∧ MapOk eqI (clsF s).1.2.1 ∧ (clsF s).1.2.2.length ≤ s.length + 1 := by
 unfold clsF
 split
 ·exact ⟨MapOk.nil, MapOk.nil, Nat.zero_le _⟩
 ·have h := go_ok (linesF (toldF s)) ([], [], []) MapOk.nil MapOk.nil
  refine ⟨h.1, h.2.1, ?_⟩
  have b : (linesF (toldF s)).length = (toldF s).length := List.length_map ..
  have a : (goC ([], [], []) (linesF (toldF s))).1.2.2.length ≤ 0 + (linesF (toldF s)).length := h.2.2
  have := Zm s
  omega
theorem layL_ok (l : List SpI) : ∀ (m : List SpI), MapOk eqI m → MapOk eqI (layAll eqI m l) := by
 unfold layAll
 induction l with
 | nil => intro m h; exact h
 | cons x l ih => intro m h; exact ih _ (h.lay wQ _ _ _)
theorem vH (t : TabC) : MapOk eqI (wholeF t) := layL_ok _ _ (layL_ok _ _ (MapOk.nil.lay wQ _ _ _))
theorem lay_take {m l : List SpI} {i : Nat} {x : SpI} (h : l[i]? = some x) : layF eqI (layAll eqI m (l.take i)) x.1 x.2.1 x.2.2 = layAll eqI m (l.take (i + 1)) := by
 rw [← layAll_snoc, ← tk_snoc h]
def plainF (r : Int) : Int := if r < 0 ∨ 1114111 < r then 65533 else r
theorem plain_y {r : Int} (h : r < 0 ∨ 1114111 < r) : 65533 = plainF r := by unfold plainF; rw [if_pos h]
theorem plain_n {r : Int} (h1 : 0 ≤ r) (h2 : r ≤ 1114111) : r = plainF r := by unfold plainF; rw [if_neg (by omega)]
theorem scan_kind (no : Int) (s : List UInt8) : 0 ≤ (scanF no s).1.2.1 ∧ (scanF no s).1.2.1 ≤ 3 := by
 unfold scanF
 repeat' split
 all_goals exact ⟨by simp [zeroL], by simp [zeroL]⟩
theorem line_kind {l : List LineV} {d : List (Int × List UInt8)} (h : l.map stripL = linesF d) {k : Nat} {x : LineV} (hx : l[k]? = some x) : 0 ≤ x.2.1 ∧ x.2.1 ≤ 3 := by
 have a : (l.map stripL)[k]? = some (stripL x) := by rw [List.getElem?_map, hx]; rfl
 rw [h] at a
 unfold linesF at a
 rw [List.getElem?_map, Option.map_eq_some_iff] at a
 obtain ⟨y, _, hy⟩ := a
 have := scan_kind y.1 y.2
 rw [hy] at this
 exact this
theorem splF_el (b : UInt8) : ∀ (s : List UInt8), ∀ x ∈ splF b s, x.length ≤ s.length
 | [], x, h => by rw [splF] at h; rw [List.mem_singleton.1 h]; exact Nat.le_refl _
 | c :: l, x, h => by
  rw [splF] at h
  rw [List.length_cons]
  split at h
  ·rcases List.mem_cons.1 h with rfl | h
   ·exact Nat.zero_le _
   ·have := splF_el b l x h; omega
  ·obtain ⟨p, r, e⟩ := splF_ne b l
   have ih := splF_el b l
   rw [e] at h ih
   rcases List.mem_cons.1 h with rfl | h
   ·have := ih p List.mem_cons_self
    rw [List.length_cons]; omega
   ·have := ih x (List.mem_cons_of_mem _ h); omega
theorem fields_el {s x : List UInt8} (h : x ∈ fieldsF s) : x.length ≤ s.length := by
 unfold fieldsF at h
 split at h
 ·cases h
 ·obtain ⟨y, hy, rfl⟩ := List.mem_map.1 h
  exact Nat.le_trans (vK _) (splF_el 59 s y hy)
theorem cut_el {s x : List UInt8} (h : x ∈ (cutF s).1) : x.length ≤ s.length := Nat.le_trans (fields_el (show x ∈ fieldsF (Lib.cut s [35]).1 from h)) (vO s [35]).1
theorem ord_len (s : List UInt8) : (ordF s).2.1.length ≤ s.length := by
 have a := (vO ((headF s).drop 1) [58]).2
 have b := headF_len s
 rw [List.length_drop] at a
 unfold ordF; omega
theorem scan_parts {no : Int} {s : List UInt8} (n : Nat) (hs : s.length ≤ n) : (∀ x ∈ (scanF no s).1.2.2.2.1, x.length ≤ n) ∧ (scanF no s).1.2.2.2.2.length ≤ n := by
 have b : (noteF s).length ≤ n := Nat.le_trans (noteF_len s) hs
 have e : ((noteF s).drop 9).length ≤ n := by rw [List.length_drop]; omega
 have z : (∀ x ∈ zeroL.2.2.2.1, x.length ≤ n) ∧ zeroL.2.2.2.2.length ≤ n := ⟨fun x hx => (by cases hx), Nat.zero_le _⟩
 unfold scanF
 by_cases f : (chkF s).2 ≠ 0
 ·rw [if_pos f]; exact z
 ·rw [if_neg f]
  by_cases d : headF s = []
  ·rw [if_pos d]
   by_cases a : hpB (noteF s) missT = true
   ·rw [if_pos a]; exact ⟨fun x hx => Nat.le_trans (cut_el hx) e, Nat.le_trans (cutF_len _) e⟩
   ·rw [if_neg a]; exact ⟨fun x hx => (by cases hx), b⟩
  ·rw [if_neg d]
   by_cases a : hpB (headF s) [64] = true
   ·rw [if_pos a]
    by_cases c : (ordF s).2.2 = false ∨ nameF (ordF s).1 = false
    ·rw [if_pos c]; exact z
    ·rw [if_neg c]; exact ⟨fun x hx => Nat.le_trans (fields_el hx) (Nat.le_trans (ord_len s) hs), b⟩
   ·rw [if_neg a]; exact ⟨fun x hx => Nat.le_trans (cut_el hx) hs, b⟩
theorem scan_ok {s : List UInt8} {xs : List LineV} {k : Nat} {x : LineV} (hs : s.length ≤ 1073741823) (h : xs.map stripL = linesF (toldF s)) (hx : xs[k]? = some x) : (∀ y ∈ x.fs, y.length ≤ 1073741824) ∧ x.2.2.2.2.length ≤ 1073741824 ∧ x.fs.length ≤ 1073741824 := by
 have b : stripL x ∈ linesF (toldF s) := by rw [← h]; exact List.mem_map_of_mem (List.mem_of_getElem? hx)
 unfold linesF at b
 obtain ⟨y, hy, e⟩ := List.mem_map.1 b
 have a := scan_parts (no := y.1) (s := y.2) 1073741824 (by have := told_short hy; omega)
 rw [e] at a
 exact ⟨a.1, a.2, fs_len h hs x (List.mem_of_getElem? hx)⟩
section
variable {s : List UInt8} {xs : List LineV} {k : Nat} {t : TabC} {x : LineV}
theorem cb_data1 (h : invC s xs k t) (hx : xs[k]? = some x) (hk : x.2.1 = 1) (h1 : (toldC x.fs 70).2.2.2 ≠ 0) : clsF s = (t, x.1, (toldC x.fs 70).2.2.2) := invC_bad h hx (st_data1 hk h1) h1
theorem cb_data2 (h : invC s xs k t) (hx : xs[k]? = some x) (hk : x.2.1 = 1) (h1 : (toldC x.fs 70).2.2.2 = 0) (h2 : putE t.2.1 (toldC x.fs 70).1 (toldC x.fs 70).2.1 ≠ 0) : clsF s = (t, x.1, putE t.2.1 (toldC x.fs 70).1 (toldC x.fs 70).2.1) := invC_bad h hx (st_data2 hk h1 h2) h2
theorem cb_data3 (h : invC s xs k t) (hx : xs[k]? = some x) (hk : x.2.1 = 1) (h1 : (toldC x.fs 70).2.2.2 = 0) (h2 : putE t.2.1 (toldC x.fs 70).1 (toldC x.fs 70).2.1 = 0) (h3 : putE t.1 (toldC x.fs 70).1 (toldC x.fs 70).2.1 ≠ 0) : clsF s = (t, x.1, putE t.1 (toldC x.fs 70).1 (toldC x.fs 70).2.1) := invC_bad h hx (st_data3 hk h1 h2) h3
theorem cb_order (h : invC s xs k t) (hx : xs[k]? = some x) (hk : x.2.1 = 2) : clsF s = (t, x.1, 33) := invC_bad h hx (st_order hk) (by decide)
theorem cb_miss (h : invC s xs k t) (hx : xs[k]? = some x) (hk : x.2.1 = 3) (h1 : (toldC x.fs 71).2.2.2 ≠ 0) : clsF s = (t, x.1, (toldC x.fs 71).2.2.2) := invC_bad h hx (st_miss1 hk h1) h1
end
theorem xS {s : List UInt8} {t : TabC} {n e : Int} (hok : (clsF s).2.2 = 0) (h : clsF s = (t, n, e)) (he : e ≠ 0) : False := he (by rw [h] at hok; exact hok)
def rngC (l : List SpI) : Prop := ∀ x ∈ l, (0 ≤ x.1 ∧ x.1 ≤ 1114111) ∧ (0 ≤ x.2.1 ∧ x.2.1 ≤ 1114111)
theorem rng_nil : rngC [] := fun x h => by cases h
theorem uS {l : List SpI} (h : rngC l) (f : List (List UInt8)) (wr c : Int) : rngC (l ++ [((toldC f wr).1, (toldC f wr).2.1, c)]) := fun x hx => by
 rcases List.mem_append.1 hx with hx | hx
 ·exact h x hx
 ·obtain rfl := List.mem_singleton.1 hx; exact tc_rng f wr
end Go.FK
end

/- === FKl === -/
section
/- FKl: a strings.Builder of the call's own, carried over the steps of a walk; its methods. My own text, over the kit's shelf. -/
namespace Go.FK
open Go Go.RowKit
def Bld (T E B b : Nat) (l : List UInt8) (w : World) : Prop := Lib.IsBuilderF T E B b (Lib.byteCells l) w
theorem Bld.at {T E B b : Nat} {l : List UInt8} {w : World} (h : Bld T E B b l w) : B ≤ b ∧ ∃ p v, w.heap[b]? = some (.cells #[p, v] T (0, 0)) := by
 rcases h with ⟨hB, v, hb, _⟩ | ⟨hB, v, hb, _⟩
 ·exact ⟨hB, _, v, hb⟩
 ·exact ⟨hB, _, v, hb⟩
theorem Bld.lt {T E B b : Nat} {l : List UInt8} {w : World} (h : Bld T E B b l w) : b < w.heap.size := by
 obtain ⟨_, p, v, hb⟩ := h.at
 exact yL hb
theorem Bld.cast {T E B b : Nat} {l m : List UInt8} {w : World} (h : Bld T E B b l w) (e : l = m) : Bld T E B b m w := e ▸ h
theorem bldAt_same {T E B b : Nat} {p : Value} {bs : List Value} {w w' : World} (h : Lib.BuilderAtF T E B b p bs w) (hk : ∀ k : Nat, (∃ cs X fz, w.heap[k]? = some (.cells cs X fz) ∧ (X = T ∨ X = E)) → w'.heap[k]? = w.heap[k]?) : Lib.BuilderAtF T E B b p bs w' := by
 obtain ⟨hB, v, hb, hown, hne⟩ := h
 refine ⟨hB, v, (hk b ⟨_, _, _, hb, .inl rfl⟩).trans hb, ⟨hown.1, ?_⟩, hne⟩
 rcases hown.2 with hn | ⟨g, cap, cur, fz, hv, hbg, hg, rest⟩
 ·exact .inl hn
 ·exact .inr ⟨g, cap, cur, fz, hv, hbg, (hk g ⟨_, _, _, hg, .inr rfl⟩).trans hg, rest⟩
theorem Bld.same {T E B b : Nat} {l : List UInt8} {w w' : World} (h : Bld T E B b l w) (hk : ∀ k : Nat, (∃ cs X fz, w.heap[k]? = some (.cells cs X fz) ∧ (X = T ∨ X = E)) → w'.heap[k]? = w.heap[k]?) : Bld T E B b l w' :=
 h.elim (fun x => .inl (bldAt_same x hk)) (fun x => .inr (bldAt_same x hk))
theorem Bld.below {T E B b : Nat} {l : List UInt8} {w w' : World} (h : Bld T E B b l w) (hb : Below w.heap.size w w') : Bld T E B b l w' :=
 h.same fun k ⟨_, _, _, hk, _⟩ => hb.block k (Array.getElem?_eq_some_iff.1 hk).1
theorem Bld.wrote {T E B b k : Nat} {l : List UInt8} {w w' : World} {o o0 : Obj} (h : Bld T E B b l w) (hW : Wrote w w' k o) (hk : w.heap[k]? = some o0) (ho : ∀ cs X fz, o0 = .cells cs X fz → X ≠ T ∧ X ≠ E) : Bld T E B b l w' :=
 h.same fun j ⟨cs, X, fz, hj, hX⟩ => hW.other j fun e => by
  subst e
  rw [hk] at hj
  have := ho cs X fz (Option.some.inj hj)
  rcases hX with a | a
  ·exact this.1 a
  ·exact this.2 a
theorem Bld.grown {α : Type} {T E B b B' E' k' : Nat} {l : List UInt8} {w w' : World} {enc : α → List Value} {v : Value} {xs : List α} (h : Bld T E B b l w) (hg : w.grownBy w' v.ownBlock) (hr : Row w B' E' k' enc v xs) (h1 : Nat.beq E' T = false) (h2 : Nat.beq E' E = false) : Bld T E B b l w' := by
 refine h.same fun j ⟨cs, X, fz, hj, hX⟩ => ?_
 refine hg.block j (yL hj) fun e => ?_
 rcases hr.2 with ⟨rfl, _⟩ | ⟨g, cap, cur, rfl, _, hh, _⟩
 ·simp [Value.ownBlock] at e
 ·simp [Value.ownBlock] at e
  subst e
  rw [hh] at hj
  have hj := Option.some.inj hj
  injection hj with _ e2 _
  subst e2
  rcases hX with rfl | rfl
  ·simp at h1
  ·simp at h2
theorem Bld.obj_kept {T E B b k : Nat} {l : List UInt8} {w w' : World} {o : Obj} (h : Bld T E B b l w) (hO : Lib.OthersKept E (some b) w w') (hk : w.heap[k]? = some o) (ho : ∀ cs X fz, o = .cells cs X fz → X ≠ T ∧ X ≠ E) : w'.heap[k]? = some o := by
 refine hO k o hk (fun e => ?_) (fun cs fz e => ?_)
 ·obtain ⟨_, p, v, hb⟩ := h.at
  have e := Option.some.inj e
  subst e
  rw [hb] at hk
  exact (ho _ _ _ (Option.some.inj hk).symm).1 rfl
 ·exact (ho _ _ _ e).2 rfl
theorem bldStr {P : Program} {f : FuncId} {T E B b : Nat} (h1 : ∀ (B b : Nat) (l : List UInt8) (w : World), Lib.IsBuilderF T E B b (Lib.byteCells l) w → B ≤ w.heap.size →
   Calls P f #[.pointer (some ⟨b, 0, none⟩)] w fun e w' => e = .returned (.string ⟨l.toArray⟩) ∧ (Lib.IsBuilderF T E B b (Lib.byteCells l) w' ∧ Below B w w' ∧ Lib.OthersKept E (some b) w w'))
  (l : List UInt8) (w : World) (h : Bld T E B b l w) (hB : B ≤ w.heap.size) :
  Calls P f #[.pointer (some ⟨b, 0, none⟩)] w (Ret fun v w' => v = S l ∧ Bld T E B b l w' ∧ Below B w w' ∧ Lib.OthersKept E (some b) w w') := by
 refine (h1 B b l w h hB).mono ?_
 rintro e w' ⟨rfl, c, d, a⟩
 exact ⟨_, rfl, rfl, c, d, a⟩
end Go.FK
end

/- === FKi === -/
section
/- FKi: regions that draw their order, whose operations have guards. My own text. -/
namespace Go.FK
open Go Go.RowKit
section
variable {P : Program} {n : Nat} {Q : Post} {s : Fm} {w : World} {ops : Array Oper} {fuel : Nat} {listed : Array Bool}
end
section
variable {P : Program} {n : Nat} {Q : Post} {s : Fm} {w : World} {ops : Array Oper} {fuel : Nat} {listed : Array Bool}
def noG (o : Oper) : Oper := { o with guard := none }
end
section
variable {P : Program} {n : Nat} {Q : Post} {s : Fm} {w : World} {ops : Array Oper} {fuel : Nat} {listed : Array Bool}
end
section
variable {P : Program} {n : Nat} {Q : Post} {s : Fm} {w : World} {ops : Array Oper} {fuel : Nat} {listed : Array Bool} {C : World → Prop}
theorem wpIn_quiet {o : Oper} {a : Act} {K : Act → Prop} {K' : Act → World → Prop} {Q' : Exit → Act → World → Prop} (hne : ∀ c, o.op ≠ .defer c) (hw : C w) (h : ∀ a w', C w' → K a → K' a w') (hh : o.quiet P a C K) : o.wpIn (Fw none) 0 P a w K' Q' := by
 obtain ⟨v, j, g⟩ := hh
 have b := j w hw
 unfold Oper.quietAt at b
 unfold Oper.wpIn
 refine ⟨fun _ _ => trivial, ?_⟩
 rw [Oper.semAt_eq _ _ _ hne]
 generalize (execOp a.eval o).run P w = r at *
 cases r with
 | ok m w' =>
  cases m <;> simp only [Oper.quietUpon] at b <;> simp only [Oper.uponIn]
  case value u =>
   obtain ⟨d, i⟩ := b
   rw [d, i]
   exact h _ _ hw g
  case skip =>
   obtain ⟨d, i⟩ := b
   rw [d, ← i]
   exact h _ _ hw g
  case enter f args =>
   obtain ⟨d, hc⟩ := b
   rw [d]
   exact ⟨fun hx => by simp [Fw] at hx, CallsIn.mono (calls_fw.2 hc) fun e w'' ⟨he, hw''⟩ => by subst he; exact h _ _ hw'' g⟩
 | halt x w' => simp only [Oper.quietUpon] at b
theorem opIn_quiet {i : Nat} {a : Act} {K : Act → Prop} {K' : Act → World → Prop} {Q' : Exit → Act → World → Prop} (hd : noDefers ops = true) (hC : C w) (h : ∀ a w', C w' → K a → K' a w') (hh : qOp P ops C i K a) : wpOpIn (Fw none) 0 P ops Q' i K' a w := by
 unfold qOp at hh
 unfold wpOpIn
 cases ho : ops[i]? with
 | none => simp only [ho] at hh ⊢; exact h _ _ hC hh
 | some o =>
  simp only [ho] at hh ⊢
  have hne : ∀ c, o.op ≠ .defer c := uF (List.all_eq_true.1 hd o (by
   have := Array.mem_of_getElem? ho
   simpa using this))
  split
  ·rename_i hw; rw [if_pos hw] at hh; exact wpIn_quiet hne hC h hh
  ·rename_i hw; rw [if_neg hw] at hh; exact ⟨fun _ _ => trivial, h _ _ hC hh⟩
end
section ops
variable {r : Option Nat} {P : Program} {n : Nat} {Q : Post} {s : Fm} {w : World} {ops : Array Oper} {rest : List Oper}
variable {d : Option Tmp} {ty : TypeId} {pos : String} {af : Array Edge}
end ops
end Go.FK
end

/- === FKab === -/
section
/- FKab: what the writing methods of strings.Builder do to memory: the pieces of their walks. My own text. -/
namespace Go.FK
open Go Go.RowKit
theorem Rd.one {α : Type} {w : World} {enc : α → List Value} {v : Value} {xs : List α} (h : Rd w enc v xs) : v.oneCell' = true := by
 obtain ⟨a, c, rfl, _⟩ := h; rfl
section
variable {T E B b : Nat} {l m : List UInt8} {w w1 w2 w3 : World} {p v v2 : Value}
theorem byteCells_len (l : List UInt8) : (Lib.byteCells l).length = l.length := by simp [Lib.byteCells]
end
section ops
variable {r : Option Nat} {P : Program} {n : Nat} {Q : Post} {s : Fm} {w : World} {ops : Array Oper} {rest : List Oper}
variable {d : Option Tmp} {ty : TypeId} {pos : String} {af : Array Edge} {T U E B : Nat} {l : List UInt8} {v : Value}
theorem info_u8 (hi : (P.info? E).map (fun i => (i.zero, i.size, i.bytes)) = some (some (.int .u8 0), 1, 1)) : ∃ i, P.info? E = some i ∧ i.zero = some (.int .u8 0) ∧ i.size = 1 ∧ i.bytes = 1 := by
 cases hq : P.info? E with
 | none => rw [hq] at hi; cases hi
 | some i =>
  rw [hq] at hi
  simp only [Option.map_some, Option.some.injEq, Prod.mk.injEq] at hi
  exact ⟨i, rfl, hi.1, hi.2.1, hi.2.2⟩
theorem L_toUns {src dst t : TypeId} {X : Operand} {k : Nat} {e : TypeId} {cs : List Value} (b : Nat) (hs : P.underlying src = some (.pointer t)) (hd : P.underlying dst = some .unsafePointer) (hi : (P.info? t).map (·.size) = some k) (hk : Nat.beq k 0 = false)
  (ho : w.heap[b]? = some (.cells cs.toArray e (0, 0))) (hc : Nat.blt 0 cs.length = true) (hX : s.ev n X = .pointer (some ⟨b, 0, none⟩)) (h : L r P n ops Q rest (s.put d (.pointer (some ⟨b, 0, none⟩))) w) :
  L r P n ops Q (⟨d, .convert src dst X, ty, pos, af, none⟩ :: rest) s w := by
 obtain ⟨j, hj, hjs⟩ := Option.map_eq_some_iff.1 hi
 have hsh : w.shape? b = some (e, cs.length) := by simp [World.shape?, ho]
 refine xP _ w (by simp) ?_ h
 simp only [execOp, hX, Sem.run_bind, Lib.run_to_unsafe (P := P) (w := w) ⟨b, 0, none⟩ hs hd hj (by rw [hjs]; intro e; subst e; simp at hk) hsh (by simpa using hc), Result.andThen_ok, Sem.run_pure]
theorem L_fromUns {src dst t : TypeId} {X : Operand} {k : Nat} {e : TypeId} {cs : List Value} (b : Nat) (hs : P.underlying src = some .unsafePointer) (hd : P.underlying dst = some (.pointer t)) (hi : (P.info? t).map (·.size) = some k)
  (ho : w.heap[b]? = some (.cells cs.toArray e (0, 0))) (hl : liesAt P P.depth e (cs.length / P.cellsOf e) 0 t 1 = true) (hX : s.ev n X = .pointer (some ⟨b, 0, none⟩)) (h : L r P n ops Q rest (s.put d (.pointer (some ⟨b, 0, none⟩))) w) :
  L r P n ops Q (⟨d, .convert src dst X, ty, pos, af, none⟩ :: rest) s w := by
 obtain ⟨j, hj, hjs⟩ := Option.map_eq_some_iff.1 hi
 have hsh : w.shape? b = some (e, cs.length) := by simp [World.shape?, ho]
 refine xP _ w (by simp) ?_ h
 simp only [execOp, hX, Sem.run_bind, Lib.run_from_unsafe (P := P) (w := w) ⟨b, 0, none⟩ hs hd hj hsh hl, Result.andThen_ok, Sem.run_pure]
theorem L_pneF {tp te yt : TypeId} {X Y : Operand} {k : Nat} (b : Nat) (hp : P.underlying tp = some (.pointer te)) (hi : (P.info? te).map (·.size) = some k) (hX : s.ev n X = .pointer (some ⟨b, 0, none⟩)) (hY : s.ev n Y = .pointer (some ⟨b, 0, none⟩))
  (hg : (eqGuard .neq tp X Y (.pointer (some ⟨b, 0, none⟩)) (.pointer (some ⟨b, 0, none⟩))).run P w = .ok () w) (h : L r P n ops Q rest (s.put d (.bool false)) w) : L r P n ops Q (⟨d, .binOp .neq tp X Y yt, ty, pos, af, none⟩ :: rest) s w := by
 obtain ⟨j, hj, _⟩ := Option.map_eq_some_iff.1 hi
 exact L_bin _ _ (.bool false) hX hY hg (Lib.run_neq_ptr_same w ⟨b, 0, none⟩ hp hj) h
theorem flat_take {α : Type} (enc : α → List Value) (k : Nat) (hk : ∀ x, (enc x).length = k) (xs : List α) (i : Nat) (hi : i ≤ xs.length) : (xs.flatMap enc).take (i * k) = (xs.take i).flatMap enc ∧ (xs.flatMap enc).drop (i * k) = (xs.drop i).flatMap enc := by
 have b : xs.flatMap enc = (xs.take i).flatMap enc ++ (xs.drop i).flatMap enc := by rw [← List.flatMap_append, List.take_append_drop]
 have a : ((xs.take i).flatMap enc).length = i * k := by rw [flat_len enc k hk, List.length_take, Nat.min_eq_left hi]
 rw [b]
 exact ⟨List.take_left' a, List.drop_left' a⟩
theorem flat_setA {α : Type} (enc : α → List Value) (k : Nat) (hk : ∀ x, (enc x).length = k) (xs : List α) (i : Nat) (x' : α) (hi : i < xs.length) : (xs.set i x').flatMap enc = (xs.flatMap enc).take (i * k) ++ enc x' ++ (xs.flatMap enc).drop (i * k + k) := by
 rw [(flat_take enc k hk xs i (by omega)).1, show i * k + k = (i + 1) * k by rw [Nat.succ_mul], (flat_take enc k hk xs (i + 1) (by omega)).2, List.set_eq_take_append_cons_drop, if_pos hi, List.flatMap_append, List.flatMap_cons, List.append_assoc]
theorem L_storeRowA {α : Type} {t : TypeId} {X Y : Operand} {enc : α → List Value} {E k : Nat} {xs : List α} (i g off : Nat) (x' : α) (us : List Value) (hrow : Row w B E k enc v xs) (hk : ∀ x, (enc x).length = k) (hi : i < xs.length) (hl : Lies v g off xs.length)
  (hx : s.ev n X = .pointer (some ⟨g, off + i * k, none⟩)) (hy : s.ev n Y = .agg us.toArray) (h1 : us.all (·.oneCell') = true) (hz : (sizeOf t).run P w = .ok us.length w) (hen : enc x' = us)
  (h : ∀ w', Row w' B E k enc v (xs.set i x') → w.grownBy w' v.ownBlock → L r P n ops Q rest (s.put d undef) w') : L r P n ops Q (⟨d, .store t X Y, ty, pos, af, none⟩ :: rest) s w := by
 obtain ⟨hlen, hr⟩ := hrow
 rcases hr with ⟨j, l⟩ | ⟨g', cap, cur, rfl, hg, hh, hnc, hcm, hcs, htake⟩
 ·omega
 ·obtain ⟨c, hc⟩ := hl
  injection hc with hc1 hc2 hc3
  injection hc1 with hc1
  injection hc1 with hc1 hc4
  subst hc1; subst hc4
  rw [Nat.zero_add] at hx
  have hul : us.length = k := by rw [← hen, hk]
  have hb : i * k + k ≤ xs.length * k := by rw [← Nat.succ_mul]; exact Nat.mul_le_mul_right _ hi
  have e : xs.length * k ≤ cur.size := by rw [hcs]; exact Nat.mul_le_mul_right _ hnc
  have hble : Nat.ble (i * k + us.length) cur.toList.length = true := by
   have a : cur.toList.length = cur.size := Array.length_toList
   rw [Nat.ble_eq, a, hul]
   omega
  refine xU g' (i * k) us cur.toList (cur.toList.take (i * k) ++ us ++ cur.toList.drop (i * k + us.length)) E hx hy h1 hz (by simpa using hh) hble rfl ?_
  intro w' hW
  have hf := flat_setA enc k hk xs i x' hi
  have hrow' : Row w' B E k enc (.slice (some ⟨g', 0, none⟩) xs.length cap) (xs.set i x') := by
   refine ⟨?_, .inr ⟨g', cap, _, ?_, hg, hW.here, ?_, hcm, ?_, ?_⟩⟩
   ·rw [flat_len enc k hk]
   ·rw [List.length_set]
   ·rw [List.length_set]; exact hnc
   ·rw [hul]
    simp only [List.size_toArray, List.length_append, List.length_take, List.length_drop, Array.length_toList, hul]
    rw [← hcs]; omega
   ·rw [List.length_set, hf, hen, hul, ← htake]
    have a : cur.toList.length = cur.size := Array.length_toList
    have f : (cur.toList.take (i * k)).length = i * k := by rw [List.length_take, a]; omega
    rw [List.take_take, Nat.min_eq_left (by omega), List.drop_take]
    have b : (cur.toList.take (i * k) ++ us).length = i * k + k := by rw [List.length_append, f, hul]
    rw [show (cur.toList.take (i * k) ++ us ++ cur.toList.drop (i * k + k)).toArray.toList = cur.toList.take (i * k) ++ us ++ cur.toList.drop (i * k + k) from rfl, List.take_append, b, List.take_of_length_le (by rw [b]; omega)]
  exact h w' hrow' (grown_of_wrote hW rfl)
end ops
end Go.FK
end

/- === FKak === -/
section
/- FKak: a strings.Builder as a struct with a row of bytes of its own: it may be written in rounds of ranges too. My own text. -/
namespace Go.FK
open Go Go.RowKit
def encByt (c : UInt8) : List Value := [.int .u8 ((c.toNat : Nat) : Int)]
theorem byt_cells (l : List UInt8) : l.flatMap encByt = Lib.strCells ⟨l.toArray⟩ := by
 show l.flatMap encByt = l.map fun b => Value.int .u8 b.toNat
 induction l with
 | nil => rfl
 | cons c l ih => rw [List.flatMap_cons, ih]; rfl
theorem byt_byte (l : List UInt8) : l.flatMap encByt = Lib.byteCells l := by
 induction l with
 | nil => rfl
 | cons c l ih => rw [List.flatMap_cons, ih]; rfl
section ops
variable {r : Option Nat} {P : Program} {n : Nat} {Q : Post} {s : Fm} {w : World} {ops : Array Oper} {rest : List Oper}
variable {d : Option Tmp} {ty : TypeId} {pos : String} {af : Array Edge} {T U E B : Nat} {l : List UInt8} {v : Value}
theorem L_appStrR {A X : Operand} (x : List UInt8) (ht : P.underlying T = some (.slice E)) (hu : P.underlying U = some .string) (hi : (P.info? E).map (fun i => (i.zero, i.size, i.bytes)) = some (some (.int .u8 0), 1, 1))
  (hrow : Row w B E 1 encByt v l) (hl : l.length ≤ 1073741824) (hx : x.length ≤ 1073741824) (hB : B ≤ w.heap.size) (hA : s.ev n A = v) (hX : s.ev n X = S x)
  (h : ∀ v' w', Row w' B E 1 encByt v' (l ++ x) → w.grownBy w' v.ownBlock → (v'.ownBlock = v.ownBlock ∨ v'.ownBlock = some w.heap.size) → L r P n ops Q rest (s.put d v') w') :
  L r P n ops Q (⟨d, .call ⟨.builtin .append, #[A, X], #[T, U]⟩, ty, pos, af, none⟩ :: rest) s w := by
 obtain ⟨i, hq, hz, a, b⟩ := info_u8 hi
 have hsz : (⟨x.toArray⟩ : ByteArray).size = x.length := by show x.toArray.size = _; simp
 have hown : w.ownsRow B E 1 v l.length (l.flatMap encByt) := hrow
 obtain ⟨v', w', hrun, hown', hg, hnil⟩ := Lib.run_append_own_string (P := P) w B T U ty E i ht hu hq hz a b v l.length (l.flatMap encByt) hown ⟨x.toArray⟩ (by rw [hsz]; unfold maxLen; omega) (by rw [hsz]; omega) hB
 have how : v'.ownBlock = v.ownBlock ∨ v'.ownBlock = some w.heap.size := by
  rcases hown.2 with ⟨rfl, _⟩ | ⟨g, cap, cur, rfl, _, hh, hnc, _, hcs, _⟩
  ·by_cases c : (⟨x.toArray⟩ : ByteArray).size = 0
   ·rw [hnil.2 ⟨rfl, c⟩]; exact .inl rfl
   ·have hr := run_append_nil_string (P := P) w T U ty E i (.int .u8 0) ht hu hq hz ⟨x.toArray⟩ (by omega) (by rw [hsz]; omega) (by rw [hsz, b]; omega)
    rw [hr] at hrun; injection hrun with e1 _; rw [← e1]; exact .inr rfl
  ·by_cases hroom : l.length + (⟨x.toArray⟩ : ByteArray).size ≤ cap
   ·have hr := Lib.run_append_room_string (P := P) w T U ty E i ht hu hq a g l.length cap cur hh ⟨x.toArray⟩ hroom (by omega)
    rw [hr] at hrun; injection hrun with e1 _; rw [← e1]; exact .inl rfl
   ·have hr := Lib.run_append_grow_string (P := P) w T U ty E i (.int .u8 0) ht hu hq hz ⟨g, 0, none⟩ l.length cap (l.flatMap encByt) (by rw [a]; exact hown.1) (hown.cells (g := g) rfl) ⟨x.toArray⟩ (by omega) (by rw [hsz]; omega) (by rw [b]; exact growslice_fits (by omega) (by omega))
    rw [hr] at hrun; injection hrun with e1 _; rw [← e1]; exact .inr rfl
 refine xP v' w' (by simp) ?_ (h v' w' ?_ hg how)
 ·have hX' : s.ev n X = .string ⟨x.toArray⟩ := hX
  simp only [execOp, resolve, invoke, builtin, Sem.run_bind, Sem.run_pure, Result.andThen_ok, List.map_toArray, List.map_cons, List.map_nil, hA, hX', hrun]
 ·rw [hsz] at hown'
  show w'.ownsRow B E 1 v' (l ++ x).length ((l ++ x).flatMap encByt)
  rw [List.length_append, List.flatMap_append, byt_cells x]
  exact hown'
end ops
section
variable {T E B b : Nat} {l : List UInt8} {w w1 : World} {p v : Value}
theorem copy2 (hcc : (w1 = w ∧ p = .pointer (some ⟨b, 0, none⟩)) ∨ Wrote w w1 b (.cells [.pointer (some ⟨b, 0, none⟩), v].toArray T (0, 0)))
  (ho : w.heap[b]? = some (.cells [p, v].toArray T (0, 0))) : w1.heap[b]? = some (.cells [.pointer (some ⟨b, 0, none⟩), v].toArray T (0, 0)) ∧ Ch (fun k => k = b) w w1 := by
 rcases hcc with ⟨rfl, rfl⟩ | hW
 ·exact ⟨ho, Ch.refl _ _⟩
 ·exact ⟨hW.here, Ch.of_wrote hW⟩
theorem Bld.ofRow (hp : p = .pointer none ∨ p = .pointer (some ⟨b, 0, none⟩)) (ho : w.heap[b]? = some (.cells [p, v].toArray T (0, 0))) (hr : Row w B E 1 encByt v l) (hB : B ≤ b) (hne : v.ownBlock ≠ some b) : Bld T E B b l w := by
 have hown : w.ownsRowF B E 1 v (Lib.byteCells l).length (Lib.byteCells l) := by
  have h : w.ownsRow B E 1 v l.length (l.flatMap encByt) := hr
  rw [byt_byte] at h
  rw [byteCells_len]
  exact World.ownsRowF_of h
 rcases hp with rfl | rfl
 ·exact .inl ⟨hB, v, ho, hown, hne⟩
 ·exact .inr ⟨hB, v, ho, hown, hne⟩
end
end Go.FK
end

/- === PCl2 === -/
section
/- PCl2: what a table of classes writes and tells; its classes are classes. My own text. -/
namespace Go.FK
open Go Go.RowKit
theorem uJ (lo hi : Int) : (showSpanF lo hi).1.length ≤ 14 := by
 have b := showF_len lo
 have a := showF_len hi
 unfold showSpanF
 split
 ·simp
 ·split
  ·simp only; omega
  ·simp only [List.length_append, List.length_cons, List.length_nil]; omega
def missW : List UInt8 := [35, 32, 64, 109, 105, 115, 115, 105, 110, 103, 58, 32]
def mlC (x : SpI) : List UInt8 := (((missW ++ (showSpanF x.1 x.2.1).1) ++ [59, 32]) ++ longS x.2.2) ++ [10]
def nlC (x : SpI) : List UInt8 := ((((([] : List UInt8) ++ (showSpanF x.1 x.2.1).1) ++ [59, 32]) ++ shortS x.2.2)) ++ [10]
def writeC (mm am : List SpI) : List UInt8 := mm.flatMap mlC ++ am.flatMap nlC
theorem wr_miss {mm : List SpI} {i : Nat} {x : SpI} {acc : List UInt8} (h : acc = (mm.take i).flatMap mlC) (hx : mm[i]? = some x) : acc ++ ((((missW ++ (showSpanF x.1 x.2.1).1) ++ [59, 32]) ++ longS x.2.2) ++ [10]) = (mm.take (i + 1)).flatMap mlC := by
 rw [← tk_snoc hx, List.flatMap_append, h]; simp [mlC]
theorem wr_half {mm : List SpI} {i : Nat} {acc : List UInt8} (h : acc = (mm.take i).flatMap mlC) (hi : mm.length ≤ i) : acc = mm.flatMap mlC ++ (([] : List SpI)).flatMap nlC := by
 rw [h, List.take_of_length_le hi]; simp
theorem wr_name {mm pre : List SpI} {x : SpI} {acc : List UInt8} (h : acc = mm.flatMap mlC ++ pre.flatMap nlC) : acc ++ (((([] ++ (showSpanF x.1 x.2.1).1) ++ [59, 32]) ++ shortS x.2.2) ++ [10]) = mm.flatMap mlC ++ (pre ++ [x]).flatMap nlC := by
 rw [h, List.flatMap_append]; simp [nlC]
theorem ml_len (x : SpI) : (mlC x).length ≤ 60 := by
 have b := uJ x.1 x.2.1
 have a := Zf x.2.2
 simp only [mlC, missW, List.length_append, List.length_cons, List.length_nil]; omega
theorem nl_len (x : SpI) : (nlC x).length ≤ 60 := by
 have b := uJ x.1 x.2.1
 have a := uD x.2.2
 simp only [nlC, List.length_append, List.length_cons, List.length_nil]; omega
theorem flat_le {f : SpI → List UInt8} (hf : ∀ x, (f x).length ≤ 60) : ∀ l : List SpI, (l.flatMap f).length ≤ 60 * l.length
 | [] => Nat.le_refl _
 | x :: l => by
  have := flat_le hf l; have := hf x
  rw [List.flatMap_cons, List.length_append, List.length_cons]; omega
theorem mm_len (l : List SpI) : (l.flatMap mlC).length ≤ 60 * l.length := flat_le ml_len l
theorem am_len (l : List SpI) : (l.flatMap nlC).length ≤ 60 * l.length := flat_le nl_len l
theorem write_lenC (mm am : List SpI) : (writeC mm am).length ≤ 60 * mm.length + 60 * am.length := by
 have := mm_len mm; have := am_len am
 unfold writeC; rw [List.length_append]; omega
theorem mi_len {mm : List SpI} {i : Nat} {acc : List UInt8} (h : acc = (mm.take i).flatMap mlC) : acc.length ≤ 60 * mm.length := by
 have b := mm_len (mm.take i)
 have a : (mm.take i).length ≤ mm.length := by rw [List.length_take]; omega
 rw [h]; omega
theorem na_len {mm pre : List SpI} {acc : List UInt8} (h : acc = mm.flatMap mlC ++ pre.flatMap nlC) : acc.length ≤ 60 * mm.length + 60 * pre.length := by
 rw [h]; exact write_lenC mm pre
def fewC {α : Type} (l : List α) (few : Int) : List α := if 0 ≤ few then l.take (few.toNat + 1) else l
section
variable {α : Type} {l pre acc a : List α} {few : Int} {x y : α} {i n : Nat}
theorem few_all (h : few < 0 ∨ (l.length : Int) ≤ few) : l = fewC l few := by
 unfold fewC; split
 ·rw [List.take_of_length_le (by omega)]
 ·rfl
theorem few_stop (hp : pre <+: l) (h0 : 0 ≤ few) (h : (pre.length : Int) = few + 1) : pre = fewC l few := by
 unfold fewC; rw [if_pos h0]
 obtain ⟨t, rfl⟩ := hp
 rw [show few.toNat + 1 = pre.length by omega, List.take_left]
theorem few_len (l : List α) (few : Int) : (fewC l few).length ≤ l.length := by
 unfold fewC; split
 ·rw [List.length_take]; omega
 ·exact Nat.le_refl _
theorem few_n (l : List α) (few : Int) : ((fewC l few).length : Int) = if 0 ≤ few ∧ few < (l.length : Int) - 1 then few + 1 else l.length := by
 unfold fewC
 split
 ·rw [List.length_take]; split <;> omega
 ·rw [if_neg (by omega)]
theorem few_at (l : List α) (few : Int) (hi : i < (fewC l few).length) : (fewC l few)[i]? = l[i]? := by
 unfold fewC at *
 split
 ·rename_i h; rw [if_pos h] at hi; rw [List.length_take] at hi; rw [List.getElem?_take_of_lt (by omega)]
 ·rfl
end
section
variable {a l : List SpI} {few n : Int} {i : Nat} {x y : SpI}
theorem same_len (hn : ((fewC l few).length : Int) = n) (h : (a.length : Int) ≠ n) : ¬ a = fewC l few := fun e => h (by rw [e]; exact hn)
theorem qU (hn : ((fewC l few).length : Int) = n) (hi : (i : Int) < n) (hx : a[i]? = some x) (hy : l[i]? = some y) (e : x ≠ y) : ¬ a = fewC l few := fun h => by
 have b := few_at l few (i := i) (by omega)
 rw [← h, hx, hy] at b
 exact e (Option.some.inj b)
theorem wG (hn : ((fewC l few).length : Int) = n) (h : a.take i = (fewC l few).take i) (hi : (i : Int) < n) (hx : a[i]? = some x) (hy : l[i]? = some y) (e : x = y) : a.take (i + 1) = (fewC l few).take (i + 1) := by
 have b := few_at l few (i := i) (by omega)
 rw [hy, ← e] at b
 exact tk_same h hx b rfl
theorem same_end (hn : ((fewC l few).length : Int) = n) (h : a.take i = (fewC l few).take i) (hl : (a.length : Int) = n) (hi : n ≤ i) : a = fewC l few := tk_all h (by omega) (by omega)
theorem uM {x y : SpI} (h : (x.1 == y.1 && x.2.1 == y.2.1 && x.2.2 == y.2.2) = false) : x ≠ y := fun e => by subst e; simp at h
theorem sp_eq {x y : SpI} (h : x.1 = y.1 ∧ x.2.1 = y.2.1 ∧ x.2.2 = y.2.2) : x = y := sp_ext h.1 h.2.1 h.2.2
end
def clsB (l : List SpI) : Prop := ∀ x ∈ l, 1 ≤ x.2.2 ∧ x.2.2 ≤ 23
theorem clsB_nil : clsB [] := fun x h => by cases h
theorem clsB_lay {l : List SpI} {lo hi v : Int} (h : clsB l) (hr : RiseG 0 l) (hv : 1 ≤ v ∧ v ≤ 23) : clsB (layF eqI l lo hi v) := fun s hs => by
 cases hm : mayG lo hi with
 | false => unfold layF at hs; rw [if_pos hm] at hs; exact h s hs
 | true =>
  have b : RiseG 0 (layF eqI l lo hi v) := layF_rise hr
  have c := b.mem s hs
  have a := mem_val b hs (x := s.1) ⟨Int.le_refl _, c.2.1⟩
  rw [layF_val wQ hr hm] at a
  split at a
  ·cases a; exact hv
  ·unfold valG at a
   rw [Option.map_eq_some_iff] at a
   obtain ⟨y, hy, e⟩ := a
   have := h y (List.mem_of_find?_eq_some hy)
   rw [e] at this; exact this
theorem clsB_put {l : List SpI} {lo hi v : Int} (h : clsB l) (hr : RiseG 0 l) (hv : 1 ≤ v ∧ v ≤ 23) : clsB (putF eqI l lo hi v) := by
 cases hm : mayG lo hi with
 | false => unfold putF; rw [if_pos hm]; exact h
 | true =>
  unfold putF; rw [if_neg (by rw [hm]; decide)]
  split
  ·exact h
  ·have := clsB_lay (lo := lo) (hi := hi) h hr hv
   unfold layF at this; rw [if_neg (by rw [hm]; decide)] at this; exact this
theorem classN_rng (name : List UInt8) : ∀ (n : Nat) (c : Int), 1 ≤ c → (classN name n c).2 = 0 → 1 ≤ (classN name n c).1 ∧ (classN name n c).1 ≤ 23
 | 0, c, hc, h => by simp [classN] at h
 | n + 1, c, hc, h => by
  unfold classN at h ⊢
  by_cases a : c ≤ 23
  ·rw [if_pos a] at h ⊢
   by_cases d : alikeB name (shortS c) = true
   ·rw [if_pos d]; exact ⟨hc, a⟩
   ·rw [if_neg d] at h ⊢
    by_cases b : alikeB name (longS c) = true
    ·rw [if_pos b]; exact ⟨hc, a⟩
    ·rw [if_neg b] at h ⊢
     exact classN_rng name n (c + 1) (by omega) h
  ·rw [if_neg a] at h; exact absurd h (by decide)
theorem class_rng {name : List UInt8} (h : (classF name).2 = 0) : 1 ≤ (classF name).1 ∧ (classF name).1 ≤ 23 := classN_rng name _ 1 (by omega) h
theorem told_cls {f : List (List UInt8)} {wr : Int} (hw : wr ≠ 0) (h : (toldC f wr).2.2.2 = 0) : 1 ≤ (toldC f wr).2.2.1 ∧ (toldC f wr).2.2.1 ≤ 23 := by
 unfold toldC at *
 split at h
 ·exact absurd h hw
 ·rename_i h1
  rw [if_neg h1]
  split at h
  ·rename_i h2; exact absurd h h2
  ·rename_i h2; rw [if_neg h2]; exact class_rng h
theorem step_cls (t : TabC) (x : LineD) (h1 : MapOk eqI t.1) (h : clsB t.1 ∧ clsB t.2.2) : clsB (stepL t x).1.1 ∧ clsB (stepL t x).1.2.2 := by
 unfold stepL stepC
 repeat' split
 all_goals try exact h
 ·rename_i h2 h3 h4
  exact ⟨clsB_put h.1 h1.rise (told_cls (by decide) (by simpa using h3)), h.2⟩
 ·rename_i h2 h3 h4 h5
  refine ⟨h.1, fun y hy => ?_⟩
  rcases List.mem_append.1 hy with hy | hy
  ·exact h.2 y hy
  ·obtain rfl := List.mem_singleton.1 hy
   exact told_cls (by decide) (by simpa using h5)
theorem go_cls : ∀ (l : List LineD) (t : TabC), MapOk eqI t.1 → MapOk eqI t.2.1 → clsB t.1 ∧ clsB t.2.2 → clsB (goC t l).1.1 ∧ clsB (goC t l).1.2.2
 | [], t, _, _, h => h
 | x :: l, t, h1, h2, h => by
  unfold goC
  split
  ·exact h
  ·have a := step_ok t x h1 h2
   exact go_cls l _ a.1 a.2.1 (step_cls t x h1 h)
theorem cls_cls (s : List UInt8) : clsB (clsF s).1.1 ∧ clsB (clsF s).1.2.2 := by
 unfold clsF
 split
 ·exact ⟨clsB_nil, clsB_nil⟩
 ·exact go_cls _ _ MapOk.nil MapOk.nil ⟨clsB_nil, clsB_nil⟩
end Go.FK
end

/- === POne === -/
section
/- POne: ranges put one by one, and those that were taken laid the other way round: the same map. My own text. -/
namespace Go.FK
open Go Go.RowKit
abbrev Rg := Int × Int
def encRg (x : Rg) : List Value := [.int .i32 x.1, .int .i32 x.2]
def valA (val : List Bool) (k : Int) : Bool := val.getD k.toNat false
def tookIn (l : List Rg) (x k : Int) : Bool := match l[k.toNat]? with | some r => decide (r.1 ≤ x ∧ x ≤ r.2) | none => false
def valT (l : List Rg) (val : List Bool) (T : List Int) (x : Int) : Option Bool := (T.find? (tookIn l x)).map (valA val)
structure OneI (l : List Rg) (val : List Bool) (i : Nat) (A : List SpB) (T : List Int) : Prop where
  ok : MapOk eqB A
  may : ∀ k ∈ T, 0 ≤ k ∧ k < i ∧ ∃ r, l[k.toNat]? = some r ∧ mayG r.1 r.2 = true
  same : ∀ x, valG A x = valT l val T x
section
variable {l : List Rg} {val : List Bool} {i : Nat} {A B : List SpB} {T : List Int} {r : Rg} {b : Bool}
theorem putE_ok {V : Type} {xs : List (SpG V)} {lo hi : Int} (h : putE xs lo hi = 0) : mayG lo hi = true ∧ metG xs lo hi = none := by
 unfold putE at h
 split at h
 ·exact absurd h (by decide)
 ·next h1 =>
  split at h
  ·exact absurd h (by decide)
  ·next h2 => exact ⟨by simpa using h1, by simpa using h2⟩
theorem putF_ok {V : Type} {eq : V → V → Bool} {xs : List (SpG V)} {lo hi : Int} {v : V} (h : putE xs lo hi = 0) : putF eq xs lo hi v = layG eq xs lo hi v := by
 have a := putE_ok h
 unfold putF
 rw [if_neg (by rw [a.1]; decide), if_neg (by rw [a.2]; simp)]
structure TwoI (l : List Rg) (val : List Bool) (T : List Int) (j : Nat) (B : List SpB) : Prop where
  ok : MapOk eqB B
  same : ∀ x, valG B x = valT l val (T.drop j) x
end
def rgs {V : Type} (xs : List (SpG V)) : List Rg := xs.map fun s => (s.1, s.2.1)
end Go.FK
end

/- === PCl3 === -/
section
/- PCl3: the table covers each code point once; what is named has its class and its line. My own text. -/
namespace Go.FK
open Go Go.RowKit
def fullC (l : List SpI) : Prop := ∀ x : Int, 0 ≤ x → x ≤ 1114111 → (valG l x).isSome = true
def tabI (t : TabC) : Prop := ∀ x, (valG t.2.1 x).isSome = (valG t.1 x).isSome ∧ ∀ v, valG t.2.1 x = some v → 1 ≤ v
theorem put_valI {t : List SpI} {lo hi v x : Int} (hr : RiseG 0 t) (h : putE t lo hi = 0) : valG (putF eqI t lo hi v) x = if lo ≤ x ∧ x ≤ hi then some v else valG t x := by
 rw [putF_ok h, layG_val wQ hr (putE_ok h).1]
def wI (W : List SpI) (i : Nat) (at_ last : Int) : Prop := (i = 0 ∧ at_ = 0 ∧ last = 0) ∨ ∃ y, 0 < i ∧ W[i - 1]? = some y ∧ at_ = y.2.1 + 1 ∧ last = y.2.2
section
variable {W : List SpI} {i : Nat} {at_ last : Int} {x : SpI}
end
section
variable {s : List UInt8} {i : Nat} {a l : Int} {x : SpI}
end
end Go.FK
end

/- === PCl4 === -/
section
/- PCl4: the same lines, further down, and missing lines ahead: the same table but for the lines' numbers. My own text. -/
namespace Go.FK
open Go Go.RowKit
def upL (n : Nat) (l l' : List SpI) : Prop := MapOk eqI l ∧ MapOk eqI l' ∧ ∀ x, valG l' x = (valG l x).map (· + (n : Int))
section
variable {n : Nat} {l l' : List SpI} {lo hi v : Int}
end
def relC (n : Nat) (pre : List SpI) (t t' : TabC) : Prop := t'.1 = t.1 ∧ upL n t.2.1 t'.2.1 ∧ t'.2.2 = pre ++ t.2.2
section
variable {n : Nat} {pre : List SpI} {t t' : TabC}
end
end Go.FK
end

/- === PCl5 === -/
section
/- PCl5: a line's end behind a text: its lines, and at most a blank one. My own text. -/
namespace Go.FK
open Go Go.RowKit
end Go.FK
end

/- === PCl6 === -/
section
/- PCl6: a line that ends in a return is wrong. My own text. -/
namespace Go.FK
open Go Go.RowKit
end Go.FK
end

/- === PCl7 === -/
section
/- PCl7: a missing line ahead of all, and behind all. My own text. -/
namespace Go.FK
open Go Go.RowKit
end Go.FK
end

/- === PRf7 === -/
section
/- PRf7: the document's table of classes, by its rows, and that it is the program's. My own text. -/
namespace Go.FK
open Go Go.RowKit
abbrev RowC := Int × Int × Int × Int × Bool
def zRow : RowC := (0, 0, 0, 0, false)
def encRow7 (x : RowC) : List Value := [.int .i64 x.1, .int .i32 x.2.1, .int .i32 x.2.2.1, .int .u8 x.2.2.2.1, .bool x.2.2.2.2]
def rowF (no k : Int) (f : List (List UInt8)) : RowC × Bool × Int :=
  if k = 2 then (zRow, false, 33) else
  if k = 1 ∧ f.length ≠ 2 then (zRow, false, 70) else
  if k = 3 ∧ f.length ≠ 2 then (zRow, false, 71) else
  if ¬ (k = 1 ∨ k = 3) then (zRow, false, 0) else
  if (spanF (f.getD 0 [])).2.2 ≠ 0 then (zRow, false, (spanF (f.getD 0 [])).2.2) else
  if (classF (f.getD 1 [])).1 = 0 then (zRow, false, 50) else
  ((no, (spanF (f.getD 0 [])).1, (spanF (f.getD 0 [])).2.1, (classF (f.getD 1 [])).1, decide (k = 3)), true, 0)
def inN (x : Int) (r : RowC) : Bool := !r.2.2.2.2 && decide (r.2.1 ≤ x ∧ x ≤ r.2.2.1)
def inMs (x : Int) (r : RowC) : Bool := r.2.2.2.2 && decide (r.2.1 ≤ x ∧ x ≤ r.2.2.1)
def meetN (rows : List RowC) (lo hi : Int) : Bool := rows.any fun r => !r.2.2.2.2 && decide (r.2.1 ≤ hi ∧ lo ≤ r.2.2.1)
def stepR (rows : List RowC) (no k : Int) (f : List (List UInt8)) : List RowC × Int :=
  if (rowF no k f).2.2 ≠ 0 then (rows, (rowF no k f).2.2) else
  if (rowF no k f).2.1 = false then (rows, 0) else
  if (!(rowF no k f).1.2.2.2.2 && meetN rows (rowF no k f).1.2.1 (rowF no k f).1.2.2.1) = true then (rows, 42) else (rows ++ [(rowF no k f).1], 0)
def goR : List RowC → List LineD → List RowC × Int × Int
  | t, [] => (t, 0, 0)
  | t, x :: l => if (stepR t x.1 x.2.1 x.2.2.2.1).2 ≠ 0 then (t, x.1, (stepR t x.1 x.2.1 x.2.2.2.1).2) else goR (stepR t x.1 x.2.1 x.2.2.2.1).1 l
def refF (s : List UInt8) : List RowC × Int × Int :=
  if (badL (toldF s)).2 ≠ 0 then ([], (badL (toldF s)).1, (badL (toldF s)).2) else goR [] (linesF (toldF s))
theorem classN_err (name : List UInt8) : ∀ (n : Nat) (c : Int), 1 ≤ c → ((classN name n c).2 = 0 ∧ (classN name n c).1 ≠ 0) ∨ (classN name n c) = (0, 50)
 | 0, c, hc => by right; rfl
 | n + 1, c, hc => by
  unfold classN
  split
  ·split
   ·left; exact ⟨rfl, by simp only; omega⟩
   ·split
    ·left; exact ⟨rfl, by simp only; omega⟩
    ·exact classN_err name n (c + 1) (by omega)
  ·right; rfl
theorem class_err (name : List UInt8) : ((classF name).2 = 0 ∧ (classF name).1 ≠ 0) ∨ classF name = (0, 50) := classN_err name _ 1 (by omega)
theorem row_told (no k : Int) (f : List (List UInt8)) (wr : Int) (hk : (k = 1 ∧ wr = 70) ∨ (k = 3 ∧ wr = 71)) :
  rowF no k f = if (toldC f wr).2.2.2 ≠ 0 then (zRow, false, (toldC f wr).2.2.2) else ((no, (toldC f wr).1, (toldC f wr).2.1, (toldC f wr).2.2.1, decide (k = 3)), true, 0) := by
 unfold rowF toldC
 rw [if_neg (by omega)]
 by_cases hf : f.length ≠ 2
 ·rw [if_pos hf]
  rcases hk with ⟨b, a⟩ | ⟨b, a⟩
  ·rw [if_pos ⟨b, hf⟩, if_pos (by simp only; omega)]; simp [a]
  ·rw [if_neg (by omega), if_pos ⟨b, hf⟩, if_pos (by simp only; omega)]; simp [a]
 ·rw [if_neg hf, if_neg (fun h => hf h.2), if_neg (fun h => hf h.2), if_neg (by omega)]
  by_cases hs : (spanF (f.getD 0 [])).2.2 ≠ 0
  ·rw [if_pos hs, if_pos hs, if_pos hs]
  ·rw [if_neg hs, if_neg hs]
   rcases class_err (f.getD 1 []) with h | h
   ·rw [if_neg h.2, if_neg (by simp only; omega)]
   ·rw [h]; rfl
structure RelR (rows : List RowC) (t : TabC) : Prop where
  ok1 : MapOk eqI t.1
  ok2 : MapOk eqI t.2.1
  v1 : ∀ x, valG t.1 x = (rows.find? (inN x)).map (·.2.2.2.1)
  v2 : ∀ x, valG t.2.1 x = (rows.find? (inN x)).map (·.1)
  ms : t.2.2 = (rows.filter (·.2.2.2.2)).map (fun r => (r.2.1, r.2.2.1, r.2.2.2.1))
  good : ∀ r ∈ rows, (0 ≤ r.2.1 ∧ r.2.1 ≤ r.2.2.1 ∧ r.2.2.1 ≤ 1114111) ∧ 1 ≤ r.2.2.2.1 ∧ r.2.2.2.1 ≤ 23
theorem rel_nil : RelR [] ([], [], []) := ⟨MapOk.nil, MapOk.nil, fun _ => rfl, fun _ => rfl, rfl, fun r h => by cases h⟩
theorem meet_some {rows : List RowC} {t : TabC} (h : RelR rows t) {lo hi : Int} (hm : mayG lo hi = true) : (metG t.2.1 lo hi).isSome = meetN rows lo hi := by
 have hn := metG_none h.ok2.rise hm
 obtain ⟨f, g, i⟩ := Zn hm
 cases hq : meetN rows lo hi with
 | false =>
  rw [hn.2 fun x a b => ?_]; · rfl
  rw [h.v2, List.find?_eq_none.2]; · rfl
  intro r hr hin
  unfold meetN at hq
  have := List.any_eq_false.1 hq r hr
  unfold inN at hin
  simp only [Bool.and_eq_true, Bool.not_eq_true', decide_eq_true_eq] at hin this
  exact this ⟨hin.1, by omega, by omega⟩
 | true =>
  cases hg : metG t.2.1 lo hi with
  | some s => rfl
  | none =>
   exfalso
   have e := hn.1 hg
   unfold meetN at hq
   obtain ⟨r, hr, hq⟩ := List.any_eq_true.1 hq
   simp only [Bool.and_eq_true, Bool.not_eq_true', decide_eq_true_eq] at hq
   have d := (h.good r hr).1
   -- the greater of the two beginnings lies in both
   have c := e (max lo r.2.1) (by omega) (by omega)
   rw [h.v2, Option.map_eq_none_iff, List.find?_eq_none] at c
   refine c r hr ?_
   unfold inN
   simp only [Bool.and_eq_true, Bool.not_eq_true', decide_eq_true_eq]
   exact ⟨hq.1, by omega, by omega⟩
theorem meet_none {rows : List RowC} {lo hi x : Int} (hq : meetN rows lo hi = false) (a : lo ≤ x) (b : x ≤ hi) : rows.find? (inN x) = none := by
 rw [List.find?_eq_none]
 intro r hr hin
 unfold meetN at hq
 have := List.any_eq_false.1 hq r hr
 unfold inN at hin
 simp only [Bool.and_eq_true, Bool.not_eq_true', decide_eq_true_eq] at hin this
 exact this ⟨hin.1, by omega, by omega⟩
theorem told_mayG {f : List (List UInt8)} {wr : Int} (hw : wr ≠ 0) (h : (toldC f wr).2.2.2 = 0) : mayG (toldC f wr).1 (toldC f wr).2.1 = true := by
 have hb := tc_rng f wr
 have hle : (toldC f wr).1 ≤ (toldC f wr).2.1 := by
  unfold toldC at *
  split at h
  ·exact absurd h hw
  ·rename_i h1
   rw [if_neg h1]
   split at h
   ·rename_i h2; exact absurd h h2
   ·rename_i h2
    rw [if_neg h2]
    have h : (spanF (f.getD 0 [])).2.2 = 0 := by simpa using h2
    show (spanF (f.getD 0 [])).1 ≤ (spanF (f.getD 0 [])).2.1
    generalize f.getD 0 [] = a at h
    cases hd : dotsFrom a 0 with
    | none =>
     rw [vU hd] at h ⊢
     split at h <;> rename_i q
     ·rw [if_pos q]; exact Int.le_refl _
     ·rw [if_neg q]; exact Int.le_refl _
    | some i =>
     rw [wF hd] at h ⊢
     split at h <;> rename_i q
     ·exact absurd h (by decide)
     ·rw [if_neg q]
      split at h <;> rename_i q2
      ·exact absurd h (by decide)
      ·rw [if_neg q2]; simp only; omega
 unfold mayG
 exact decide_eq_true ⟨hb.1.1, hle, hb.2.2⟩
theorem rel_step7 {rows : List RowC} {t : TabC} (h : RelR rows t) (x : LineD) (hk : 0 ≤ x.2.1 ∧ x.2.1 ≤ 3) :
  (stepL t x).2 = (stepR rows x.1 x.2.1 x.2.2.2.1).2 ∧ ((stepL t x).2 = 0 → RelR (stepR rows x.1 x.2.1 x.2.2.2.1).1 (stepL t x).1) := by
 obtain ⟨no, k, nm, f, nt⟩ := x
 simp only at hk ⊢
 unfold stepL
 simp only
 have hc : k = 0 ∨ k = 1 ∨ k = 2 ∨ k = 3 := by omega
 rcases hc with rfl | rfl | rfl | rfl
 ·rw [st_blank rfl]
  have : rowF no 0 f = (zRow, false, 0) := by unfold rowF; rw [if_neg (by decide), if_neg (by simp), if_neg (by simp), if_pos (by decide)]
  unfold stepR; rw [this, if_neg (by simp), if_pos rfl]
  exact ⟨rfl, fun _ => h⟩
 ·have hr := row_told no 1 f 70 (.inl ⟨rfl, rfl⟩)
  by_cases c : (toldC f 70).2.2.2 ≠ 0
  ·rw [if_pos c] at hr
   have e := st_data1 (t := t) (no := no) (kd := 1) rfl c
   unfold stepR; rw [hr, if_pos c]
   exact ⟨e, fun q => absurd (e.symm.trans q) c⟩
  ·rw [if_neg c] at hr
   have c : (toldC f 70).2.2.2 = 0 := by simpa using c
   have hm := told_mayG (by decide) c
   have hmt := meet_some h hm
   have hcl := told_cls (wr := 70) (by decide) c
   unfold stepR; rw [hr, if_neg (by simp), if_neg (by simp)]
   simp only [show decide ((1 : Int) = 3) = false from rfl, Bool.not_false, Bool.true_and]
   by_cases hq : meetN rows (toldC f 70).1 (toldC f 70).2.1 = true
   ·rw [if_pos hq]
    have e : putE t.2.1 (toldC f 70).1 (toldC f 70).2.1 = 42 := by unfold putE; rw [if_neg (by rw [hm]; decide), if_pos (by rw [hmt, hq])]
    have d := st_data2 (t := t) (no := no) (kd := 1) rfl c (by rw [e]; decide)
    rw [e] at d
    exact ⟨d, fun q => by rw [d] at q; exact absurd q (by decide)⟩
   ·have hq : meetN rows (toldC f 70).1 (toldC f 70).2.1 = false := by simpa using hq
    rw [if_neg (by rw [hq]; decide)]
    have g : putE t.2.1 (toldC f 70).1 (toldC f 70).2.1 = 0 := by unfold putE; rw [if_neg (by rw [hm]; decide), if_neg (by rw [hmt, hq]; decide)]
    have i : putE t.1 (toldC f 70).1 (toldC f 70).2.1 = 0 := by
     unfold putE
     rw [if_neg (by rw [hm]; decide), (metG_none h.ok1.rise hm).2 (fun x a b => by rw [h.v1, meet_none hq a b]; rfl)]
     rfl
    rw [st_data rfl c g i]
    refine ⟨rfl, fun _ => ⟨h.ok1.put wQ _ _ _, h.ok2.put wQ _ _ _, fun x => ?_, fun x => ?_, ?_, ?_⟩⟩
    ·rw [put_valI h.ok1.rise i, h.v1, List.find?_append]
     split
     ·rename_i hx; rw [meet_none hq hx.1 hx.2]; simp [inN, hx.1, hx.2]
     ·rename_i hx
      have : inN x (no, (toldC f 70).1, (toldC f 70).2.1, (toldC f 70).2.2.1, false) = false := by simp [inN]; omega
      rw [List.find?_cons, this]; simp
    ·rw [put_valI h.ok2.rise g, h.v2, List.find?_append]
     split
     ·rename_i hx; rw [meet_none hq hx.1 hx.2]; simp [inN, hx.1, hx.2]
     ·rename_i hx
      have : inN x (no, (toldC f 70).1, (toldC f 70).2.1, (toldC f 70).2.2.1, false) = false := by simp [inN]; omega
      rw [List.find?_cons, this]; simp
    ·rw [List.filter_append]; simp [h.ms]
    ·intro r hr
     rcases List.mem_append.1 hr with hr | hr
     ·exact h.good r hr
     ·obtain rfl := List.mem_singleton.1 hr; exact ⟨Zn hm, hcl⟩
 ·have e := st_order (t := t) (no := no) (kd := 2) (f := f) rfl
  have : rowF no 2 f = (zRow, false, 33) := by unfold rowF; rw [if_pos rfl]
  unfold stepR; rw [this, if_pos (by decide)]
  exact ⟨e, fun q => by rw [e] at q; exact absurd q (by decide)⟩
 ·have hr := row_told no 3 f 71 (.inr ⟨rfl, rfl⟩)
  by_cases c : (toldC f 71).2.2.2 ≠ 0
  ·rw [if_pos c] at hr
   have e := st_miss1 (t := t) (no := no) (kd := 3) rfl c
   unfold stepR; rw [hr, if_pos c]
   exact ⟨e, fun q => absurd (e.symm.trans q) c⟩
  ·rw [if_neg c] at hr
   have c : (toldC f 71).2.2.2 = 0 := by simpa using c
   have hm := told_mayG (by decide) c
   have hcl := told_cls (wr := 71) (by decide) c
   unfold stepR; rw [hr, if_neg (by simp), if_neg (by simp), if_neg (by simp), st_miss rfl c]
   refine ⟨rfl, fun _ => ⟨h.ok1, h.ok2, fun x => ?_, fun x => ?_, ?_, ?_⟩⟩
   ·rw [h.v1, List.find?_append]; simp [inN]
   ·rw [h.v2, List.find?_append]; simp [inN]
   ·rw [List.filter_append]; simp [h.ms]
   ·intro r hr
    rcases List.mem_append.1 hr with hr | hr
    ·exact h.good r hr
    ·obtain rfl := List.mem_singleton.1 hr; exact ⟨Zn hm, hcl⟩
theorem rel_go7 : ∀ (l : List LineD) (rows : List RowC) (t : TabC), (∀ x ∈ l, 0 ≤ x.2.1 ∧ x.2.1 ≤ 3) → RelR rows t → (goC t l).2 = (goR rows l).2 ∧ ((goC t l).2.2 = 0 → RelR (goR rows l).1 (goC t l).1)
 | [], rows, t, _, h => ⟨rfl, fun _ => h⟩
 | x :: l, rows, t, hk, h => by
  obtain ⟨a, b⟩ := rel_step7 h x (hk x List.mem_cons_self)
  unfold goC goR
  by_cases hs : (stepL t x).2 ≠ 0
  ·rw [if_pos hs, if_pos (by rw [← a]; exact hs)]
   exact ⟨by rw [a], fun q => absurd q hs⟩
  ·rw [if_neg hs, if_neg (by rw [← a]; exact hs)]
   exact rel_go7 l _ _ (fun y hy => hk y (List.mem_cons_of_mem _ hy)) (b (by simpa using hs))
theorem rel_ref (s : List UInt8) : (clsF s).2 = (refF s).2 ∧ ((clsF s).2.2 = 0 → RelR (refF s).1 (clsF s).1) := by
 unfold clsF refF
 split
 ·exact ⟨rfl, fun q => absurd q (by assumption)⟩
 ·refine rel_go7 _ _ _ (fun x hx => ?_) rel_nil
  unfold linesF at hx
  obtain ⟨p, hp, rfl⟩ := List.mem_map.1 hx
  exact scan_kind _ _
def givenF (rows : List RowC) (x : Int) : Int × Int := match rows.find? (inN x) with | some r => (r.2.2.2.1, r.1) | none => (0, 0)
def lastMs (rows : List RowC) (x : Int) : Int := match rows.reverse.find? (inMs x) with | some r => r.2.2.2.1 | none => 1
def clsR (rows : List RowC) (x : Int) : Int := if (givenF rows x).1 ≠ 0 then (givenF rows x).1 else lastMs rows x
section
variable {rows : List RowC} {t : TabC} (h : RelR rows t) {x : Int} (h0 : 0 ≤ x) (h1 : x ≤ 1114111)
include h in
theorem given_pos {r : RowC} {x : Int} (hf : rows.find? (inN x) = some r) : 1 ≤ r.2.2.2.1 := (h.good r (List.mem_of_find?_eq_some hf)).2.1
theorem at_valR {l : List SpI} {x : Int} (h0 : 0 ≤ x) (h1 : x ≤ 1114111) : atM 0 l x = orZ 0 (valG l x) := by
 unfold atM; rw [if_pos (by simp [inR]; omega)]
include h h0 h1 in
theorem at_given : (atM 0 t.1 x).1 = (givenF rows x).1 ∧ (atM 0 t.1 x).2 = decide ((givenF rows x).1 ≠ 0) ∧ (atM 0 t.2.1 x).1 = (givenF rows x).2 := by
 rw [at_valR h0 h1, at_valR h0 h1, h.v1, h.v2]
 unfold givenF
 cases hf : rows.find? (inN x) with
 | none => exact ⟨rfl, rfl, rfl⟩
 | some r =>
  have := given_pos h hf
  exact ⟨rfl, (decide_eq_true (show r.2.2.2.1 ≠ 0 by omega)).symm, rfl⟩
end
theorem lay_last (x : Int) : ∀ (l m : List SpI), MapOk eqI m → (∀ s ∈ l, mayG s.1 s.2.1 = true) → valG (layAll eqI m l) x = ((l.reverse.find? (inS x)).map (·.2.2)).or (valG m x)
 | [], m, _, _ => rfl
 | s :: l, m, hm, hl => by
  have hs := hl s List.mem_cons_self
  show valG (layAll eqI (layF eqI m s.1 s.2.1 s.2.2) l) x = _
  rw [lay_last x l _ (hm.lay wQ _ _ _) (fun q hq => hl q (List.mem_cons_of_mem _ hq)), layF_val wQ hm.rise hs, List.reverse_cons, List.find?_append]
  cases l.reverse.find? (inS x) with
  | some q => rfl
  | none =>
   show (if _ then _ else _) = _
   split
   ·rename_i hx; simp [inS_yes hx]
   ·rename_i hx; simp [inS_no (by omega : x < s.1 ∨ s.2.1 < x)]
theorem whole_clsR {rows : List RowC} {t : TabC} (h : RelR rows t) {x : Int} (h0 : 0 ≤ x) (h1 : x ≤ 1114111) : valG (wholeF t) x = some (clsR rows x) := by
 unfold clsR givenF
 have hbase : MapOk eqI (layF eqI [] 0 1114111 1) := MapOk.nil.lay wQ _ _ _
 have hw : valG (wholeF t) x = (valG t.1 x).or (valG (layAll eqI (layF eqI [] 0 1114111 1) t.2.2) x) := by
  unfold wholeF
  exact (layAll_ok wQ h.ok1.rise (layL_ok _ _ hbase)).2 x
 rw [hw, h.v1]
 cases hf : rows.find? (inN x) with
 | some r =>
  have := given_pos h hf
  simp only [Option.map_some, Option.some_or]
  rw [if_pos (by omega)]
 | none =>
  simp only [Option.map_none, Option.none_or]
  rw [if_neg (by simp), lay_last x _ _ hbase (fun s hs => by
   rw [h.ms] at hs
   obtain ⟨r, hr, rfl⟩ := List.mem_map.1 hs
   have := (h.good r (List.mem_filter.1 hr).1).1
   unfold mayG; exact decide_eq_true this)]
  have a : valG (layF eqI [] 0 1114111 1) x = some 1 := by
   rw [layF_val wQ (by trivial) (by decide), if_pos ⟨h0, h1⟩]
  rw [a, h.ms]
  unfold lastMs
  have key : ∀ l : List RowC, ((((l.filter (·.2.2.2.2)).map (fun r => ((r.2.1, r.2.2.1, r.2.2.2.1) : SpI))).reverse.find? (inS x)).map (·.2.2)) = (l.reverse.find? (inMs x)).map (·.2.2.2.1) := by
   intro l
   induction l with
   | nil => rfl
   | cons r l ih =>
    rw [List.reverse_cons, List.find?_append, List.filter_cons]
    cases hm : r.2.2.2.2 with
    | false =>
     rw [if_neg (by decide), ih]
     have : inMs x r = false := by unfold inMs; rw [hm]; rfl
     simp [this]
    | true =>
     rw [if_pos rfl, List.map_cons, List.reverse_cons, List.find?_append]
     cases hq : ((l.filter (·.2.2.2.2)).map (fun r => ((r.2.1, r.2.2.1, r.2.2.2.1) : SpI))).reverse.find? (inS x) with
     | some q => rw [hq] at ih; cases hz : l.reverse.find? (inMs x) with
      | some z => rw [hz] at ih; simpa using ih
      | none => rw [hz] at ih; cases ih
     | none =>
      rw [hq] at ih
      cases hz : l.reverse.find? (inMs x) with
      | some z => rw [hz] at ih; cases ih
      | none =>
       by_cases hx : r.2.1 ≤ x ∧ x ≤ r.2.2.1
       ·have e : inMs x r = true := by unfold inMs; rw [hm]; simp [hx.1, hx.2]
        simp [inS_yes (s := ((r.2.1, r.2.2.1, r.2.2.2.1) : SpI)) hx, e]
       ·have e : inMs x r = false := by unfold inMs; rw [hm]; simp; omega
        simp [inS_no (x := x) (s := ((r.2.1, r.2.2.1, r.2.2.2.1) : SpI)) (show x < r.2.1 ∨ r.2.2.1 < x by omega), e]
  rw [key]
  cases rows.reverse.find? (inMs x) <;> rfl
end Go.FK
end

/- === PSt7 === -/
section
/- PSt7: the document's stretches, from edge to edge, are the program's. My own text. -/
namespace Go.FK
open Go Go.RowKit
def insF : List Int → Int → List Int
  | [], x => [x]
  | y :: l, x => if y < x then y :: insF l x else if y = x then y :: l else x :: y :: l
def RiseE (l : List Int) : Prop := l.Pairwise (· < ·)
theorem ins_mem : ∀ (l : List Int) (x y : Int), y ∈ insF l x ↔ y = x ∨ y ∈ l
 | [], x, y => by simp [insF]
 | z :: l, x, y => by
  rw [insF]
  split
  ·rw [List.mem_cons, ins_mem l x y, List.mem_cons]; constructor
   ·rintro (h | h | h)
    ·exact .inr (.inl h)
    ·exact .inl h
    ·exact .inr (.inr h)
   ·rintro (h | h | h)
    ·exact .inr (.inl h)
    ·exact .inl h
    ·exact .inr (.inr h)
  ·split
   ·rename_i h; subst h; simp
   ·simp
theorem ins_rise : ∀ (l : List Int) (x : Int), RiseE l → RiseE (insF l x)
 | [], x, _ => by simp [insF, RiseE]
 | z :: l, x, h => by
  unfold RiseE at *
  rw [insF]
  have a := List.pairwise_cons.1 h
  split
  ·rename_i hz
   refine List.pairwise_cons.2 ⟨fun y hy => ?_, ins_rise l x a.2⟩
   rcases (ins_mem l x y).1 hy with rfl | hy
   ·exact hz
   ·exact a.1 y hy
  ·split
   ·exact h
   ·refine List.pairwise_cons.2 ⟨fun y hy => ?_, h⟩
    rcases List.mem_cons.1 hy with rfl | hy
    ·omega
    ·have := a.1 y hy; omega
theorem ins_len : ∀ (l : List Int) (x : Int), (insF l x).length ≤ l.length + 1
 | [], x => by simp [insF]
 | z :: l, x => by
  rw [insF]
  split
  ·have := ins_len l x; simp only [List.length_cons]; omega
  ·split <;> simp
def edgesF (rows : List RowC) : List Int := rows.foldl (fun l r => insF (insF l r.2.1) (r.2.2.1 + 1)) [0, 1114112]
theorem edges_take {rows : List RowC} {i : Nat} {r : RowC} (h : rows[i]? = some r) : edgesF (rows.take (i + 1)) = insF (insF (edgesF (rows.take i)) r.2.1) (r.2.2.1 + 1) := by
 unfold edgesF
 have : rows.take (i + 1) = rows.take i ++ [r] := by rw [List.take_add_one, h]; rfl
 rw [this, List.foldl_append]; rfl
structure EdgeI (rows : List RowC) (l : List Int) : Prop where
  rise : RiseE l
  zero : (0 : Int) ∈ l
  last : (1114112 : Int) ∈ l
  rng : ∀ y ∈ l, 0 ≤ y ∧ y ≤ 1114112
  all : ∀ r ∈ rows, r.2.1 ∈ l ∧ r.2.2.1 + 1 ∈ l
theorem edge_fold : ∀ (m pre : List RowC) (l : List Int), EdgeI pre l → (∀ r ∈ m, 0 ≤ r.2.1 ∧ r.2.1 ≤ r.2.2.1 ∧ r.2.2.1 ≤ 1114111) → EdgeI (pre ++ m) (m.foldl (fun l r => insF (insF l r.2.1) (r.2.2.1 + 1)) l)
 | [], pre, l, h, _ => by rw [List.append_nil]; exact h
 | r :: m, pre, l, h, hg => by
  have hr := hg r List.mem_cons_self
  have : EdgeI (pre ++ [r]) (insF (insF l r.2.1) (r.2.2.1 + 1)) := by
   refine ⟨ins_rise _ _ (ins_rise _ _ h.rise), ?_, ?_, fun y hy => ?_, fun q hq => ?_⟩
   ·rw [ins_mem, ins_mem]; exact .inr (.inr h.zero)
   ·rw [ins_mem, ins_mem]; exact .inr (.inr h.last)
   ·rw [ins_mem, ins_mem] at hy
    rcases hy with rfl | rfl | hy
    ·omega
    ·omega
    ·exact h.rng y hy
   ·simp only [ins_mem]
    rcases List.mem_append.1 hq with hq | hq
    ·exact ⟨.inr (.inr (h.all q hq).1), .inr (.inr (h.all q hq).2)⟩
    ·obtain rfl := List.mem_singleton.1 hq; exact ⟨.inr (.inl rfl), .inl rfl⟩
  have ih := edge_fold m (pre ++ [r]) _ this (fun q hq => hg q (List.mem_cons_of_mem _ hq))
  rw [List.append_assoc] at ih
  exact ih
theorem edges_ok {rows : List RowC} (hg : ∀ r ∈ rows, 0 ≤ r.2.1 ∧ r.2.1 ≤ r.2.2.1 ∧ r.2.2.1 ≤ 1114111) : EdgeI rows (edgesF rows) :=
 edge_fold rows [] [0, 1114112] ⟨by simp [RiseE], by simp, by simp, fun y hy => by simp at hy; omega, fun r hr => by cases hr⟩ hg
theorem edges_len (rows : List RowC) : (edgesF rows).length ≤ 2 * rows.length + 2 := by
 have key : ∀ (m : List RowC) (l : List Int), (m.foldl (fun l r => insF (insF l r.2.1) (r.2.2.1 + 1)) l).length ≤ 2 * m.length + l.length := by
  intro m
  induction m with
  | nil => intro l; simp
  | cons r m ih =>
   intro l
   have a := ih (insF (insF l r.2.1) (r.2.2.1 + 1))
   have b := ins_len l r.2.1
   have c := ins_len (insF l r.2.1) (r.2.2.1 + 1)
   simp only [List.foldl_cons, List.length_cons] at a ⊢; omega
 have := key rows [0, 1114112]
 unfold edgesF; simpa using this
def strAdd (acc : List SpI) (a b v : Int) : List SpI :=
  match acc[acc.length - 1]? with
  | some s => if s.2.1 + 1 = a ∧ s.2.2 = v then acc.set (acc.length - 1) (s.1, b, s.2.2) else acc ++ [(a, b, v)]
  | none => acc ++ [(a, b, v)]
def strStep (g : Int → Int) (acc : List SpI) (a b : Int) : List SpI := if g a = 0 then acc else strAdd acc a (b - 1) (g a)
def strF (g : Int → Int) : List Int → List SpI → List SpI
  | a :: b :: l, acc => strF g (b :: l) (strStep g acc a b)
  | _, acc => acc
theorem str_none {acc : List SpI} {a b v : Int} (h : acc.length = 0) : acc ++ [(a, b, v)] = strAdd acc a b v := by
 obtain rfl := List.length_eq_zero_iff.1 h; rfl
theorem str_two {acc : List SpI} {a b v : Int} {s : SpI} (hs : acc[acc.length - 1]? = some s) (h : s.2.1 + 1 ≠ a ∨ s.2.2 ≠ v) : acc ++ [(a, b, v)] = strAdd acc a b v := by
 unfold strAdd; rw [hs]; simp only; rw [if_neg (by rintro ⟨h1, h2⟩; exact h.elim (fun q => q h1) (fun q => q h2))]
theorem str_one {acc : List SpI} {a b v : Int} {s : SpI} (hs : acc[acc.length - 1]? = some s) (h1 : s.2.1 + 1 = a) (h2 : s.2.2 = v) : acc.set (acc.length - 1) (s.1, b, s.2.2) = strAdd acc a b v := by
 unfold strAdd; rw [hs]; simp only; rw [if_pos ⟨h1, h2⟩]
theorem lay_end {acc : List SpI} {a b v : Int} (hr : RiseG 0 acc) (hl : ∀ s ∈ acc, s.2.1 < a) (h0 : 0 ≤ a) (h1 : a ≤ b) (h2 : b ≤ 1114111) : layF eqI acc a b v = strAdd acc a b v := by
 have hm : mayG a b = true := by unfold mayG; exact decide_eq_true ⟨h0, h1, h2⟩
 have hcut : cutG a b acc = acc := by
  have := (cut_low (lo := a) (hi := b) (A := acc) (B := []) hl).1
  rw [List.append_nil] at this; rw [this]; simp [cutG]
 have hf : fromG acc a = acc.length := by
  have i := uC acc a
  rcases Nat.lt_or_ge (fromG acc a) acc.length with f | f
  ·have g := List.getElem?_eq_getElem f
   have h := fromG_high acc a _ g
   have j := hl _ (List.mem_of_getElem? g)
   omega
  ·omega
 have hR : rightC eqI acc a b v = (acc.length, b) := by rw [rightC_end (by omega), hf]
 unfold layF
 rw [if_neg (by rw [hm]; decide)]
 unfold layG
 rw [hcut]
 unfold layC
 rw [hR]
 simp only
 rw [List.drop_eq_nil_of_le (Nat.le_refl _), List.append_nil]
 by_cases hz : acc.length = 0
 ·obtain rfl := List.length_eq_zero_iff.1 hz
  rw [leftC_zero (by omega)]; rfl
 ·have hs : acc[acc.length - 1]? = some (acc[acc.length - 1]'(by omega)) := List.getElem?_eq_getElem _
  generalize acc[acc.length - 1]'(by omega) = s at hs
  have d : acc[fromG acc a - 1]? = some s := by rw [hf]; exact hs
  have ht : acc = acc.take (acc.length - 1) ++ [s] := by
   have : acc.take (acc.length - 1 + 1) = acc.take (acc.length - 1) ++ [s] := by rw [List.take_add_one, hs]; rfl
   rw [show acc.length - 1 + 1 = acc.length by omega, List.take_length] at this; exact this
  by_cases c : s.2.1 + 1 = a ∧ s.2.2 = v
  ·rw [leftC_yes (by omega) d c.1 (eqI_y c.2), ← str_one hs c.1 c.2, hf]
   simp only
   rw [List.set_eq_take_append_cons_drop, if_pos (by omega), show acc.length - 1 + 1 = acc.length by omega, List.drop_length, c.2]
  ·have hn : s.2.1 + 1 ≠ a ∨ s.2.2 ≠ v := by
    by_cases q : s.2.1 + 1 = a
    ·exact .inr fun e => c ⟨q, e⟩
    ·exact .inl q
   rw [leftC_no (by omega) d (hn.imp id eqI_n), ← str_two hs hn, hf]
   simp only
   rw [List.take_length]
theorem str_ok (g : Int → Int) : ∀ (l : List Int) (a : Int) (acc : List SpI), RiseE (a :: l) → (1114112 : Int) ∈ a :: l → (∀ y ∈ a :: l, 0 ≤ y ∧ y ≤ 1114112) →
  (∀ y ∈ a :: l, ∀ x, y ≤ x → x ≤ 1114111 → (∀ z ∈ a :: l, z ≤ y ∨ x < z) → g x = g y) → MapOk eqI acc → (∀ s ∈ acc, s.2.1 < a) →
  (∀ x, 0 ≤ x → x < a → valG acc x = if g x = 0 then none else some (g x)) →
  MapOk eqI (strF g (a :: l) acc) ∧ ∀ x, 0 ≤ x → x ≤ 1114111 → valG (strF g (a :: l) acc) x = if g x = 0 then none else some (g x)
 | [], a, acc, _, hL, _, _, hM, _, hv => by
  have : (1114112 : Int) = a := by simpa using hL
  exact ⟨hM, fun x i h1 => hv x i (by omega)⟩
 | b :: l, a, acc, hr, hL, hrng, hc, hM, hl, hv => by
  have c := List.pairwise_cons.1 hr
  have hab : a < b := c.1 b List.mem_cons_self
  have ha := hrng a List.mem_cons_self
  have hb := hrng b (List.mem_cons_of_mem _ List.mem_cons_self)
  have hnext : ∀ z ∈ a :: b :: l, z ≤ a ∨ b ≤ z := fun z hz => by
   rcases List.mem_cons.1 hz with rfl | hz
   ·exact .inl (Int.le_refl _)
   ·rcases List.mem_cons.1 hz with rfl | hz
    ·exact .inr (Int.le_refl _)
    ·have := (List.pairwise_cons.1 c.2).1 z hz; right; omega
  have hconst : ∀ x, a ≤ x → x < b → g x = g a := fun x h1 h2 => hc a List.mem_cons_self x h1 (by omega) (fun z hz => by rcases hnext z hz with h | h <;> omega)
  have j : (1114112 : Int) ∈ b :: l := by
   rcases List.mem_cons.1 hL with h | h
   ·omega
   ·exact h
  have hcr : ∀ y ∈ b :: l, ∀ x, y ≤ x → x ≤ 1114111 → (∀ z ∈ b :: l, z ≤ y ∨ x < z) → g x = g y := fun y hy x h1 h2 f =>
   hc y (List.mem_cons_of_mem _ hy) x h1 h2 (fun z hz => by
    rcases List.mem_cons.1 hz with rfl | hz
    ·left; have := c.1 y hy; omega
    ·exact f z hz)
  rw [strF]
  by_cases i : g a = 0
  ·have e : strStep g acc a b = acc := by unfold strStep; rw [if_pos i]
   rw [e]
   refine str_ok g l b acc c.2 j (fun y hy => hrng y (List.mem_cons_of_mem _ hy)) hcr hM (fun s hs => by have := hl s hs; omega) (fun x x0 x1 => ?_)
   rcases Int.lt_or_le x a with hx | hx
   ·exact hv x x0 hx
   ·have hg := hconst x hx x1
    rw [hg, i, if_pos rfl]
    unfold valG
    rw [List.find?_eq_none.2 (fun s hs => by have := hl s hs; rw [inS_no (.inr (by omega))]; decide)]; rfl
  ·have e : strStep g acc a b = layF eqI acc a (b - 1) (g a) := by
    unfold strStep; rw [if_neg i, lay_end hM.rise hl ha.1 (by omega) (by omega)]
   rw [e]
   have hm : mayG a (b - 1) = true := by unfold mayG; exact decide_eq_true ⟨ha.1, by omega, by omega⟩
   have hval : ∀ x, valG (layF eqI acc a (b - 1) (g a)) x = if a ≤ x ∧ x ≤ b - 1 then some (g a) else valG acc x := fun x => layF_val wQ hM.rise hm _ x
   have d := hM.lay wQ a (b - 1) (g a)
   refine str_ok g l b _ c.2 j (fun y hy => hrng y (List.mem_cons_of_mem _ hy)) hcr d (fun s hs => ?_) (fun x x0 x1 => ?_)
   ·have k := d.rise.mem s hs
    have f := mem_val d.rise hs (x := s.2.1) ⟨k.2.1, Int.le_refl _⟩
    rw [hval] at f
    split at f
    ·omega
    ·unfold valG at f
     rw [Option.map_eq_some_iff] at f
     obtain ⟨y, hy, _⟩ := f
     have n := hl y (List.mem_of_find?_eq_some hy)
     have m := List.find?_some hy
     unfold inS at m
     have m := of_decide_eq_true m
     omega
   ·rw [hval]
    rcases Int.lt_or_le x a with hx | hx
    ·rw [if_neg (by omega)]; exact hv x x0 hx
    ·rw [if_pos ⟨hx, by omega⟩, hconst x hx x1, if_neg i]
theorem valG_out {xs : List SpI} {x : Int} (hr : RiseG 0 xs) (h : x < 0 ∨ 1114111 < x) : valG xs x = none := by
 unfold valG
 rw [List.find?_eq_none.2 (fun s hs => by have := hr.mem s hs; rw [inS_no (by omega)]; decide)]; rfl
theorem same_row {rows : List RowC} {l : List Int} (h : EdgeI rows l) {y x : Int} (hy : y ≤ x) (hx : x ≤ 1114111) (hz : ∀ z ∈ l, z ≤ y ∨ x < z) {r : RowC} (hr : r ∈ rows) : (r.2.1 ≤ x ∧ x ≤ r.2.2.1) ↔ (r.2.1 ≤ y ∧ y ≤ r.2.2.1) := by
 have b := hz _ (h.all r hr).1
 have a := hz _ (h.all r hr).2
 omega
theorem find_same {α : Type} {p q : α → Bool} : ∀ {l : List α}, (∀ r ∈ l, p r = q r) → l.find? p = l.find? q
 | [], _ => rfl
 | r :: l, h => by
  rw [List.find?_cons, List.find?_cons, h r List.mem_cons_self, find_same (fun s hs => h s (List.mem_cons_of_mem _ hs))]
section
variable {rows : List RowC} {t : TabC} (h : RelR rows t)
include h in
theorem edges_rel : EdgeI rows (edgesF rows) := edges_ok fun r hr => (h.good r hr).1
include h in
theorem given_const : ∀ y ∈ edgesF rows, ∀ x, y ≤ x → x ≤ 1114111 → (∀ z ∈ edgesF rows, z ≤ y ∨ x < z) → givenF rows x = givenF rows y := fun y hy x h1 h2 h3 => by
 unfold givenF
 rw [find_same (p := inN x) (q := inN y) (fun r hr => by
  have := same_row (edges_rel h) h1 h2 h3 hr
  unfold inN; rw [decide_eq_decide.2 this])]
include h in
theorem last_const : ∀ y ∈ edgesF rows, ∀ x, y ≤ x → x ≤ 1114111 → (∀ z ∈ edgesF rows, z ≤ y ∨ x < z) → lastMs rows x = lastMs rows y := fun y hy x h1 h2 h3 => by
 unfold lastMs
 rw [find_same (p := inMs x) (q := inMs y) (fun r hr => by
  have := same_row (edges_rel h) h1 h2 h3 (List.mem_reverse.1 hr)
  unfold inMs; rw [decide_eq_decide.2 this])]
include h in
theorem str_rel (g : Int → Int) (hc : ∀ y ∈ edgesF rows, ∀ x, y ≤ x → x ≤ 1114111 → (∀ z ∈ edgesF rows, z ≤ y ∨ x < z) → g x = g y) {m : List SpI} (hm : MapOk eqI m)
  (hv : ∀ x, 0 ≤ x → x ≤ 1114111 → valG m x = if g x = 0 then none else some (g x)) : strF g (edgesF rows) [] = m := by
 have he := edges_rel h
 obtain ⟨a, l, hq⟩ : ∃ a l, edgesF rows = a :: l := by
  cases hz : edgesF rows with
  | nil => have := he.zero; rw [hz] at this; cases this
  | cons a l => exact ⟨a, l, rfl⟩
 have ha : a = 0 := by
  have b := he.zero
  have i := he.rng a (by rw [hq]; exact List.mem_cons_self)
  rw [hq] at b
  rcases List.mem_cons.1 b with b | b
  ·exact b.symm
  ·have e := he.rise
   rw [hq] at e
   have := (List.pairwise_cons.1 e).1 0 b; omega
 subst ha
 have hr := he.rise; have hl := he.last; have hg := he.rng
 rw [hq] at hc hr hl hg ⊢
 obtain ⟨d, f⟩ := str_ok g l 0 [] hr hl hg hc MapOk.nil (fun s hs => by cases hs) (fun x c b => by omega)
 refine MapOk.one wQ d hm fun x => ?_
 rcases Int.lt_or_le x 0 with c | c
 ·rw [valG_out d.rise (.inl c), valG_out hm.rise (.inl c)]
 ·rcases Int.lt_or_le 1114111 x with b | b
  ·rw [valG_out d.rise (.inr b), valG_out hm.rise (.inr b)]
  ·rw [f x c b, hv x c b]
include h in
theorem named_str : strF (fun x => (givenF rows x).1) (edgesF rows) [] = t.1 :=
 str_rel h _ (fun y hy x h1 h2 h3 => by rw [given_const h y hy x h1 h2 h3]) h.ok1 fun x h0 h1 => by
  rw [h.v1]
  unfold givenF
  cases hf : rows.find? (inN x) with
  | none => rfl
  | some r => have := given_pos h hf; simp only [Option.map_some]; rw [if_neg (by omega)]
theorem last_pos {rows : List RowC} {t : TabC} (h : RelR rows t) (x : Int) : lastMs rows x ≠ 0 := by
 unfold lastMs
 cases hf : rows.reverse.find? (inMs x) with
 | none => decide
 | some r => have := (h.good r (List.mem_reverse.1 (List.mem_of_find?_eq_some hf))).2.1; show r.2.2.2.1 ≠ 0; omega
end
def invR (s : List UInt8) (xs : List LineV) (k : Nat) (t : List RowC) : Prop := (badL (toldF s)).2 = 0 ∧ goR t ((xs.drop k).map stripL) = goR [] (linesF (toldF s))
section
variable {s : List UInt8} {xs : List LineV} {k : Nat} {t t' : List RowC} {x : LineV} {e : Int}
theorem invR_zero (hb : (badL (toldF s)).2 = 0) (h : xs.map stripL = linesF (toldF s)) : invR s xs 0 [] := ⟨hb, by rw [List.drop_zero, h]⟩
theorem invR_on (h : invR s xs k t) (hx : xs[k]? = some x) (hs : stepR t x.1 x.2.1 x.fs = (t', 0)) : invR s xs (k + 1) t' := by
 refine ⟨h.1, ?_⟩
 have a : stepR t (stripL x).1 (stripL x).2.1 (stripL x).2.2.2.1 = (t', 0) := hs
 rw [← h.2, drop_line hx, List.map_cons, goR, a, if_neg (by simp)]
theorem Zl (h : invR s xs k t) (hx : xs[k]? = some x) (hs : (stepR t x.1 x.2.1 x.fs).2 = e) (he : e ≠ 0) : refF s = (t, x.1, e) := by
 have a : (stepR t (stripL x).1 (stripL x).2.1 (stripL x).2.2.2.1).2 = e := hs
 have b := h.2
 rw [drop_line hx, List.map_cons, goR, if_pos (by rw [a]; exact he), a] at b
 unfold refF; rw [if_neg (by rw [h.1]; decide), ← b]; rfl
theorem invR_end (h : invR s xs k t) (hk : xs.length ≤ k) : refF s = (t, 0, 0) := by
 have a := h.2
 rw [List.drop_eq_nil_of_le hk, List.map_nil, goR] at a
 unfold refF; rw [if_neg (by rw [h.1]; decide), ← a]
theorem ref_dead {s : List UInt8} {t : List RowC} {n e : Int} (hok : (clsF s).2.2 = 0) (h : refF s = (t, n, e)) (he : e ≠ 0) : False := by
 have := (rel_ref s).1
 rw [h] at this
 have a : (clsF s).2.2 = e := congrArg Prod.snd this
 omega
theorem ref_live {s : List UInt8} {t : List RowC} (hbad : (clsF s).2.2 ≠ 0) (h : refF s = (t, 0, 0)) : False := by
 have := (rel_ref s).1
 rw [h] at this
 exact hbad (congrArg Prod.snd this)
theorem ref_line {s : List UInt8} {t : List RowC} {n e : Int} (h : refF s = (t, n, e)) : n = (clsF s).2.1 ∧ e = (clsF s).2.2 := by
 have := (rel_ref s).1
 rw [h] at this
 exact ⟨(congrArg Prod.fst this).symm, (congrArg Prod.snd this).symm⟩
theorem sR_bad {no kd : Int} {f : List (List UInt8)} (h : (rowF no kd f).2.2 ≠ 0) : (stepR t no kd f).2 = (rowF no kd f).2.2 := by unfold stepR; rw [if_pos h]
theorem sR_skip {no kd : Int} {f : List (List UInt8)} (h : (rowF no kd f).2.2 = 0) (h2 : (rowF no kd f).2.1 = false) : stepR t no kd f = (t, 0) := by unfold stepR; rw [if_neg (by omega), if_pos h2]
def noMeet (t : List RowC) (r : RowC) (k : Nat) : Prop := ∀ y ∈ t.take k, ¬ (r.2.2.2.2 = false ∧ y.2.2.2.2 = false ∧ y.2.1 ≤ r.2.2.1 ∧ r.2.1 ≤ y.2.2.1)
theorem noMeet_zero (t : List RowC) (r : RowC) : noMeet t r 0 := fun y hy => by simp at hy
theorem noMeet_on {r y : RowC} (h : noMeet t r k) (hy : t[k]? = some y) (hn : r.2.2.2.2 = true ∨ y.2.2.2.2 = true ∨ r.2.2.1 < y.2.1 ∨ y.2.2.1 < r.2.1) : noMeet t r (k + 1) := fun z hz => by
 rw [List.take_add_one, hy] at hz
 rcases List.mem_append.1 hz with hz | hz
 ·exact h z hz
 ·obtain rfl : z = y := by simpa using hz
  rintro ⟨b, a, d, c⟩
  rcases hn with hn | hn | hn | hn
  ·rw [b] at hn; cases hn
  ·rw [a] at hn; cases hn
  ·omega
  ·omega
theorem noMeet_m {r : RowC} (h : r.2.2.2.2 = true) : noMeet t r k := fun y hy q => by rw [q.1] at h; cases h
theorem sR_meet {no kd : Int} {f : List (List UInt8)} {y : RowC} (h : (rowF no kd f).2.2 = 0) (h2 : (rowF no kd f).2.1 = true) (hy : t[k]? = some y) (a : (rowF no kd f).1.2.2.2.2 = false) (b : y.2.2.2.2 = false)
  (c : y.2.1 ≤ (rowF no kd f).1.2.2.1) (d : (rowF no kd f).1.2.1 ≤ y.2.2.1) : (stepR t no kd f).2 = 42 := by
 unfold stepR
 rw [if_neg (by omega), if_neg (by rw [h2]; decide), if_pos]
 rw [a]
 simp only [Bool.not_false, Bool.true_and]
 unfold meetN
 exact List.any_eq_true.2 ⟨y, List.mem_of_getElem? hy, by rw [b]; simp [c, d]⟩
theorem sR_take {no kd : Int} {f : List (List UInt8)} (h : (rowF no kd f).2.2 = 0) (h2 : (rowF no kd f).2.1 = true) (hn : noMeet t (rowF no kd f).1 k) (hk : t.length ≤ k) : stepR t no kd f = (t ++ [(rowF no kd f).1], 0) := by
 unfold stepR
 rw [if_neg (by omega), if_neg (by rw [h2]; decide), if_neg]
 intro q
 rw [Bool.and_eq_true] at q
 obtain ⟨b, a⟩ := q
 unfold meetN at a
 obtain ⟨y, hy, a⟩ := List.any_eq_true.1 a
 simp only [Bool.and_eq_true, Bool.not_eq_true', decide_eq_true_eq] at b a
 rw [noMeet, List.take_of_length_le hk] at hn
 exact hn y hy ⟨b, a.1, a.2.1, a.2.2⟩
end
section
variable {rows : List RowC} {x : Int} {i : Nat} {r : RowC}
def gvI (rows : List RowC) (x : Int) (i : Nat) : Prop := ∀ y ∈ rows.take i, inN x y = false
theorem gv_zero (rows : List RowC) (x : Int) : gvI rows x 0 := fun y hy => by simp at hy
theorem gv_on (h : gvI rows x i) (hr : rows[i]? = some r) (hn : r.2.2.2.2 = true ∨ x < r.2.1 ∨ r.2.2.1 < x) : gvI rows x (i + 1) := fun z hz => by
 rw [List.take_add_one, hr] at hz
 rcases List.mem_append.1 hz with hz | hz
 ·exact h z hz
 ·obtain rfl : z = r := by simpa using hz
  unfold inN
  rcases hn with hn | hn
  ·rw [hn]; rfl
  ·rw [decide_eq_false (by omega), Bool.and_false]
theorem gv_hit (h : gvI rows x i) (hr : rows[i]? = some r) (a : r.2.2.2.2 = false) (b : r.2.1 ≤ x) (c : x ≤ r.2.2.1) : givenF rows x = (r.2.2.2.1, r.1) := by
 have e : rows = rows.take i ++ r :: rows.drop (i + 1) := by rw [← drop_line hr, List.take_append_drop]
 unfold givenF
 rw [e, List.find?_append, List.find?_eq_none.2 (fun z hz => by rw [h z hz]; decide), List.find?_cons]
 have : inN x r = true := by unfold inN; rw [a]; simp [b, c]
 rw [this]; rfl
theorem gv_end (h : gvI rows x i) (hi : rows.length ≤ i) : givenF rows x = (0, 0) := by
 rw [gvI, List.take_of_length_le hi] at h
 unfold givenF
 rw [List.find?_eq_none.2 (fun z hz => by rw [h z hz]; decide)]
def lsI (rows : List RowC) (x : Int) (k : Nat) : Prop := ∀ y ∈ rows.drop k, inMs x y = false
theorem ls_zero {rows : List RowC} {x : Int} {k : Nat} (h : rows.length ≤ k) : lsI rows x k := fun y hy => by rw [List.drop_eq_nil_of_le h] at hy; cases hy
theorem ls_on (h : lsI rows x (i + 1)) (hr : rows[i]? = some r) (hn : r.2.2.2.2 = false ∨ x < r.2.1 ∨ r.2.2.1 < x) : lsI rows x i := fun z hz => by
 rw [drop_line hr] at hz
 rcases List.mem_cons.1 hz with rfl | hz
 ·unfold inMs
  rcases hn with hn | hn
  ·rw [hn]; rfl
  ·rw [decide_eq_false (by omega), Bool.and_false]
 ·exact h z hz
theorem ls_hit (h : lsI rows x (i + 1)) (hr : rows[i]? = some r) (a : r.2.2.2.2 = true) (b : r.2.1 ≤ x) (c : x ≤ r.2.2.1) : lastMs rows x = r.2.2.2.1 := by
 have e : rows = rows.take i ++ r :: rows.drop (i + 1) := by rw [← drop_line hr, List.take_append_drop]
 unfold lastMs
 rw [e, List.reverse_append, List.reverse_cons, List.append_assoc, List.find?_append, List.find?_eq_none.2 (fun z hz => by rw [h z (List.mem_reverse.1 hz)]; decide)]
 have : inMs x r = true := by unfold inMs; rw [a]; simp [b, c]
 simp [this]
theorem ls_end (h : lsI rows x 0) : lastMs rows x = 1 := by
 unfold lastMs
 rw [List.find?_eq_none.2 (fun z hz => by rw [h z (List.mem_reverse.1 hz)]; decide)]
theorem ls_at {z : Int} (h : lsI rows x (z + 1).toNat) (h0 : 0 ≤ z) (hr : rows[z.toNat]? = some r) (hn : r.2.2.2.2 = false ∨ x < r.2.1 ∨ r.2.2.1 < x) : lsI rows x (z - 1 + 1).toNat := by
 have a : (z + 1).toNat = z.toNat + 1 := by omega
 have b : (z - 1 + 1).toNat = z.toNat := by omega
 rw [a] at h; rw [b]; exact ls_on h hr hn
theorem ls_hitz {z : Int} (h : lsI rows x (z + 1).toNat) (h0 : 0 ≤ z) (hr : rows[z.toNat]? = some r) (a : r.2.2.2.2 = true) (b : r.2.1 ≤ x) (c : x ≤ r.2.2.1) : lastMs rows x = r.2.2.2.1 := by
 have d : (z + 1).toNat = z.toNat + 1 := by omega
 rw [d] at h; exact ls_hit h hr a b c
theorem ls_endz {z : Int} (h : lsI rows x (z + 1).toNat) (h0 : z < 0) : lastMs rows x = 1 := by
 rcases Int.lt_or_le (z + 1) 0 with q | q
 ·rw [show (z + 1).toNat = 0 by omega] at h; exact ls_end h
 ·rw [show (z + 1).toNat = 0 by omega] at h; exact ls_end h
def misF (rows : List RowC) : List SpI := (rows.filter (·.2.2.2.2)).map (fun r => (r.2.1, r.2.2.1, r.2.2.2.1))
theorem mis_yes {acc : List SpI} (h : acc = misF (rows.take i)) (hr : rows[i]? = some r) (a : r.2.2.2.2 = true) : acc ++ [(r.2.1, r.2.2.1, r.2.2.2.1)] = misF (rows.take (i + 1)) := by
 subst h; unfold misF; rw [List.take_add_one, hr]; simp [a]
theorem mis_no {acc : List SpI} (h : acc = misF (rows.take i)) (hr : rows[i]? = some r) (a : r.2.2.2.2 = false) : acc = misF (rows.take (i + 1)) := by
 subst h; unfold misF; rw [List.take_add_one, hr]; simp [a]
theorem mis_len (rows : List RowC) : (misF rows).length ≤ rows.length := by unfold misF; rw [List.length_map]; exact List.length_filter_le ..
theorem insF_at : ∀ (l : List Int) (x : Int) (a : Nat), (∀ y ∈ l.take a, y < x) → a ≤ l.length → insF l x = l.take a ++ insF (l.drop a) x
 | l, x, 0, _, _ => by simp
 | [], x, a + 1, _, h => by simp at h
 | y :: l, x, a + 1, h, hl => by
  have b := h y (by simp)
  rw [insF, if_pos b, insF_at l x a (fun z hz => h z (by simp [hz])) (by simpa using hl)]
  simp
def lowE (l : List Int) (x : Int) (a : Nat) : Prop := ∀ y ∈ l.take a, y < x
theorem lowE_zero (l : List Int) (x : Int) : lowE l x 0 := fun y hy => by simp at hy
theorem lowE_on {l : List Int} {x y : Int} {a : Nat} (h : lowE l x a) (hy : l[a]? = some y) (hn : y < x) : lowE l x (a + 1) := fun z hz => by
 rw [List.take_add_one, hy] at hz
 rcases List.mem_append.1 hz with hz | hz
 ·exact h z hz
 ·obtain rfl : z = y := by simpa using hz
  exact hn
theorem ins_here {l : List Int} {x y : Int} {a : Nat} (h : lowE l x a) (hy : l[a]? = some y) (e : y = x) : l = insF l x := by
 have ha := (List.getElem?_eq_some_iff.1 hy).1
 rw [insF_at l x a h (by omega)]
 have hd : l.drop a = y :: l.drop (a + 1) := by
  obtain ⟨q, rfl⟩ := List.getElem?_eq_some_iff.1 hy
  exact List.drop_eq_getElem_cons q
 rw [hd, insF, if_neg (by omega), if_pos e, ← hd, List.take_append_drop]
theorem ins_new {l : List Int} {x y : Int} {a : Nat} (h : lowE l x a) (hy : l[a]? = some y) (e : x < y) : l.take a ++ [x] ++ l.drop a = insF l x := by
 have ha := (List.getElem?_eq_some_iff.1 hy).1
 rw [insF_at l x a h (by omega)]
 have hd : l.drop a = y :: l.drop (a + 1) := by
  obtain ⟨q, rfl⟩ := List.getElem?_eq_some_iff.1 hy
  exact List.drop_eq_getElem_cons q
 rw [hd, insF, if_neg (by omega), if_neg (by omega)]; simp
theorem ins_past {l : List Int} {x : Int} {a : Nat} (h : lowE l x a) (e : l.length ≤ a) : l.take a ++ [x] ++ l.drop a = insF l x := by
 have b := insF_at l x l.length (fun z hz => h z (by rw [List.take_of_length_le e]; simpa using hz)) (Nat.le_refl _)
 rw [b, List.drop_eq_nil_of_le e, List.drop_length, List.take_of_length_le e, List.take_length, insF, List.append_nil]
end
section
variable {no k : Int} {f : List (List UInt8)} {a b : List UInt8}
theorem rw_order (h : k = 2) : rowF no k f = (zRow, false, 33) := by unfold rowF; rw [if_pos h]
theorem rw_cols (h : k = 1) (h2 : f.length ≠ 2) : rowF no k f = (zRow, false, 70) := by unfold rowF; rw [if_neg (by omega), if_pos ⟨h, h2⟩]
theorem rw_miss (h : k = 3) (h2 : f.length ≠ 2) : rowF no k f = (zRow, false, 71) := by unfold rowF; rw [if_neg (by omega), if_neg (by omega), if_pos ⟨h, h2⟩]
theorem rw_none (h : k ≠ 2) (h1 : k ≠ 1) (h3 : k ≠ 3) : rowF no k f = (zRow, false, 0) := by unfold rowF; rw [if_neg h, if_neg (fun q => h1 q.1), if_neg (fun q => h3 q.1), if_pos (by omega)]
theorem rw_span (h : k = 1 ∨ k = 3) (h2 : f.length = 2) (ha : f[0]? = some a) (hs : (spanF a).2.2 ≠ 0) : rowF no k f = (zRow, false, (spanF a).2.2) := by
 unfold rowF; rw [if_neg (by omega), if_neg (by omega), if_neg (by omega), if_neg (by omega), getF_at ha, if_pos hs]
theorem rw_class (h : k = 1 ∨ k = 3) (h2 : f.length = 2) (ha : f[0]? = some a) (hb : f[1]? = some b) (hs : (spanF a).2.2 = 0) (hc : (classF b).1 = 0) : rowF no k f = (zRow, false, 50) := by
 unfold rowF; rw [if_neg (by omega), if_neg (by omega), if_neg (by omega), if_neg (by omega), getF_at ha, if_neg (by omega), getF_at hb, if_pos hc]
theorem rw_ok (h : k = 1 ∨ k = 3) (h2 : f.length = 2) (ha : f[0]? = some a) (hb : f[1]? = some b) (hs : (spanF a).2.2 = 0) (hc : (classF b).1 ≠ 0) :
  rowF no k f = ((no, (spanF a).1, (spanF a).2.1, (classF b).1, decide (k = 3)), true, 0) := by
 unfold rowF; rw [if_neg (by omega), if_neg (by omega), if_neg (by omega), if_neg (by omega), getF_at ha, if_neg (by omega), getF_at hb, if_neg hc]
theorem rw_ok1 (h : k = 1) (h2 : f.length = 2) (ha : f[0]? = some a) (hb : f[1]? = some b) (hs : (spanF a).2.2 = 0) (hc : (classF b).1 ≠ 0) :
  rowF no k f = ((no, (spanF a).1, (spanF a).2.1, (classF b).1, false), true, 0) := by rw [rw_ok (.inl h) h2 ha hb hs hc, decide_eq_false (by omega)]
theorem rw_ok3 (h : k = 3) (h2 : f.length = 2) (ha : f[0]? = some a) (hb : f[1]? = some b) (hs : (spanF a).2.2 = 0) (hc : (classF b).1 ≠ 0) :
  rowF no k f = ((no, (spanF a).1, (spanF a).2.1, (classF b).1, true), true, 0) := by rw [rw_ok (.inr h) h2 ha hb hs hc, decide_eq_true h]
end
section
variable {g : Int → Int} {E : List Int} {acc acc' R : List SpI} {i : Nat} {a b : Int}
theorem str_step (h : strF g (E.drop i) acc = R) (ha : E[i]? = some a) (hb : E[i + 1]? = some b) (hs : strStep g acc a b = acc') : strF g (E.drop (i + 1)) acc' = R := by
 have d : E.drop i = a :: b :: E.drop (i + 1 + 1) := by
  obtain ⟨q, rfl⟩ := List.getElem?_eq_some_iff.1 ha
  obtain ⟨c, rfl⟩ := List.getElem?_eq_some_iff.1 hb
  rw [List.drop_eq_getElem_cons q, List.drop_eq_getElem_cons c]
 have e : E.drop (i + 1) = b :: E.drop (i + 1 + 1) := by
  obtain ⟨c, rfl⟩ := List.getElem?_eq_some_iff.1 hb
  rw [List.drop_eq_getElem_cons c]
 rw [d, strF, hs] at h
 rw [e]; exact h
theorem str_skip (h : strF g (E.drop i) acc = R) (ha : E[i]? = some a) (hl : i + 1 < E.length) (h0 : g a = 0) : strF g (E.drop (i + 1)) acc = R :=
 str_step h ha (List.getElem?_eq_getElem hl) (by unfold strStep; rw [if_pos h0])
theorem str_put (h : strF g (E.drop i) acc = R) (ha : E[i]? = some a) (hb : E[i + 1]? = some b) (h0 : g a ≠ 0) (hs : acc' = strAdd acc a (b - 1) (g a)) : strF g (E.drop (i + 1)) acc' = R :=
 str_step h ha hb (by unfold strStep; rw [if_neg h0, hs])
theorem str_fin (h : strF g (E.drop i) acc = R) (hi : E.length ≤ i + 1) : acc = R := by
 rw [← h]
 cases hd : E.drop i with
 | nil => rfl
 | cons y l =>
  cases l with
  | nil => rfl
  | cons z l =>
   have := congrArg List.length hd
   rw [List.length_drop] at this
   simp only [List.length_cons] at this; omega
end
theorem plain_id {x : Int} (h0 : 0 ≤ x) (h1 : x ≤ 1114111) : plainF x = x := by unfold plainF; rw [if_neg (by omega)]
section
variable {rows : List RowC} {t : TabC} (h : RelR rows t)
include h in
theorem named_strP : strF (fun x => (givenF rows (plainF x)).1) (edgesF rows) [] = t.1 :=
 str_rel h _ (fun y hy x h1 h2 h3 => by
  have a := (edges_rel h).rng y hy
  rw [plain_id (by omega) h2, plain_id a.1 (by omega), given_const h y hy x h1 h2 h3]) h.ok1 fun x h0 h1 => by
  rw [h.v1, plain_id h0 h1]
  unfold givenF
  cases hf : rows.find? (inN x) with
  | none => rfl
  | some r => have := given_pos h hf; simp only [Option.map_some]; rw [if_neg (by omega)]
include h in
theorem whole_strP : strF (fun x => clsR rows (plainF x)) (edgesF rows) [] = wholeF t :=
 str_rel h _ (fun y hy x h1 h2 h3 => by
  have a := (edges_rel h).rng y hy
  rw [plain_id (by omega) h2, plain_id a.1 (by omega)]
  unfold clsR; rw [given_const h y hy x h1 h2 h3, last_const h y hy x h1 h2 h3]) (vH t) fun x h0 h1 => by
  rw [plain_id h0 h1, whole_clsR h h0 h1, if_neg]
  unfold clsR
  split
  ·assumption
  ·exact last_pos h x
end
theorem hi_set {acc : List SpI} {i : Nat} {y : SpI} (h : ∀ s ∈ acc, -1 ≤ s.2.1 ∧ s.2.1 ≤ 1114111) (hy : -1 ≤ y.2.1 ∧ y.2.1 ≤ 1114111) : ∀ s ∈ acc.set i y, -1 ≤ s.2.1 ∧ s.2.1 ≤ 1114111 := fun s hs => by
 rcases List.mem_or_eq_of_mem_set hs with hs | rfl
 ·exact h s hs
 ·exact hy
theorem hi_snoc {acc : List SpI} {y : SpI} (h : ∀ s ∈ acc, -1 ≤ s.2.1 ∧ s.2.1 ≤ 1114111) (hy : -1 ≤ y.2.1 ∧ y.2.1 ≤ 1114111) : ∀ s ∈ acc ++ [y], -1 ≤ s.2.1 ∧ s.2.1 ≤ 1114111 := fun s hs => by
 rcases List.mem_append.1 hs with hs | hs
 ·exact h s hs
 ·obtain rfl := List.mem_singleton.1 hs; exact hy
end Go.FK
end

/- === PRd7 === -/
section
/- PRd7: chapter 7's table and the document's, asked the same: the plain law of ClassesReads. My own text. -/
namespace Go.FK
open Go Go.RowKit
theorem uR (r : Int) : 0 ≤ plainF r ∧ plainF r ≤ 1114111 := by unfold plainF; split <;> omega
theorem goR_len : ∀ (l : List LineD) (rows : List RowC), (goR rows l).1.length ≤ rows.length + l.length
 | [], rows => by simp [goR]
 | x :: l, rows => by
  rw [goR]; split
  ·simp
  ·refine Nat.le_trans (goR_len l _) ?_
   have : (stepR rows x.1 x.2.1 x.2.2.2.1).1.length ≤ rows.length + 1 := by
    unfold stepR; repeat' split
    all_goals simp
   simp only [List.length_cons]; omega
theorem ref7_rows (s : List UInt8) : (refF s).1.length ≤ s.length + 1 := by
 unfold refF; split
 ·simp
 ·refine Nat.le_trans (goR_len _ _) ?_
  have := Zm s
  unfold linesF; simp; omega
section
variable {s : List UInt8} (hok : (clsF s).2.2 = 0)
include hok
theorem rd_rel : RelR (refF s).1 (clsF s).1 := (rel_ref s).2 hok
theorem rd_giv (x : Int) : (atM 0 (clsF s).1.1 (plainF x)).1 = (givenF (refF s).1 (plainF x)).1 := (at_given (rd_rel hok) (uR x).1 (uR x).2).1
theorem rd_is (x : Int) : (atM 0 (clsF s).1.1 (plainF x)).2 = decide ((givenF (refF s).1 (plainF x)).1 ≠ 0) := (at_given (rd_rel hok) (uR x).1 (uR x).2).2.1
theorem rd_lin (x : Int) : (atM 0 (clsF s).1.2.1 (plainF x)).1 = (givenF (refF s).1 (plainF x)).2 := (at_given (rd_rel hok) (uR x).1 (uR x).2).2.2
theorem rd_cls (x : Int) : (atM 0 (wholeF (clsF s).1) (plainF x)).1 = clsR (refF s).1 (plainF x) := by
 rw [at_valR (uR x).1 (uR x).2, whole_clsR (rd_rel hok) (uR x).1 (uR x).2]; rfl
theorem rd_mis : (clsF s).1.2.2 = misF (refF s).1 := (rd_rel hok).ms
theorem rd_nam : strF (fun x => (givenF (refF s).1 (plainF x)).1) (edgesF (refF s).1) [] = (clsF s).1.1 := named_strP (rd_rel hok)
theorem rd_who : strF (fun x => clsR (refF s).1 (plainF x)) (edgesF (refF s).1) [] = wholeF (clsF s).1 := whole_strP (rd_rel hok)
theorem rd_good : ∀ r ∈ (refF s).1, 0 ≤ r.2.1 ∧ r.2.1 ≤ r.2.2.1 ∧ r.2.2.1 ≤ 1114111 := fun r hr => ((rd_rel hok).good r hr).1
end
theorem el_same7 {a b : List SpI} {i : Nat} {x y : SpI} (h : a = b) (hx : a[i]? = some x) (hy : b[i]? = some y) : x = y := by
 subst h; rw [hx] at hy; exact Option.some.inj hy
theorem el_drop {α : Type} {a b : List α} {i : Nat} {x y : α} (h : a.drop i = b.drop i) (ha : a[i]? = some x) (hb : b[i]? = some y) : x = y := by
 have c : (a.drop i)[0]? = some x := by rw [List.getElem?_drop]; exact ha
 have d : (b.drop i)[0]? = some y := by rw [List.getElem?_drop]; exact hb
 rw [h, d] at c; exact (Option.some.inj c).symm
theorem drop_set7 {α : Type} {a b : List α} {i : Nat} (y : α) (h : a.drop i = b.drop i) : (a.set i y).drop (i + 1) = b.drop (i + 1) := by
 rw [List.drop_set_of_lt (by omega)]
 have := congrArg (List.drop 1) h
 simpa [List.drop_drop, Nat.add_comm] using this
theorem rw_miss7 {mm : List SpI} {i : Nat} {x : SpI} {acc : List UInt8} (h : acc = (mm.take i).flatMap mlC) (hx : mm[i]? = some x) : ((((acc ++ missW) ++ (showSpanF x.1 x.2.1).1) ++ [59, 32]) ++ longS x.2.2) ++ [10] = (mm.take (i + 1)).flatMap mlC := by
 rw [← wr_miss h hx]; simp
theorem rw_nam7 {mm nn : List SpI} {i : Nat} {x : SpI} {acc : List UInt8} (h : acc = mm.flatMap mlC ++ (nn.take i).flatMap nlC) (hx : nn[i]? = some x) : (((acc ++ (showSpanF x.1 x.2.1).1) ++ [59, 32]) ++ shortS x.2.2) ++ [10] = mm.flatMap mlC ++ (nn.take (i + 1)).flatMap nlC := by
 rw [h, ← tk_snoc hx, List.flatMap_append]; simp [nlC]
theorem na7_len {mm nn : List SpI} {i : Nat} {acc : List UInt8} (h : acc = mm.flatMap mlC ++ (nn.take i).flatMap nlC) : acc.length ≤ 60 * mm.length + 60 * nn.length := by
 have b := na_len h
 have a : (nn.take i).length ≤ nn.length := by rw [List.length_take]; omega
 omega
end Go.FK
end

/- === FKaq === -/
section
/- FKaq: short laws for the walks' texts: what can be read off is read off, closed facts are defaults. My own text. -/
namespace Go.FK
open Go Go.RowKit
theorem zk {p : Prop} (h : p := by kernel_rfl) : p := h
theorem zo {p : Prop} (h : p := by omega) : p := h
theorem za {p : Prop} (h : p := by assumption) : p := h
theorem zl {p : Prop} (h : p := by (simp only [List.length_append, List.length_take, List.length_drop, List.length_replicate, List.length_cons, List.length_nil] <;> omega)) : p := h
@[reducible] def pt (b o : Nat) : Value := .pointer (some ⟨b, o, none⟩)
@[reducible] def I8 (x : Int) : Value := .int .i8 x
@[reducible] def I3 (x : Int) : Value := .int .i32 x
@[reducible] def I6 (x : Int) : Value := .int .i64 x
@[reducible] def U8 (x : Int) : Value := .int .u8 x
@[reducible] def N6 (x : Nat) : Value := .int .i64 (x : Int)
@[reducible] def vB (b : Bool) : Value := .bool b
@[reducible] def vF (b : Nat) : Value := .float .f64 b
@[reducible] def vx (v : Value) : Value := v
@[reducible] def ob (l : List Value) (E : TypeId) : Obj := .cells l.toArray E (0, 0)
theorem _root_.Go.RowKit.Below.tr {w a b : World} (hb : Below w.heap.size w a) (h : Below a.heap.size a b) : Below w.heap.size w b := hb.trans (h.mono hb.size)
theorem _root_.Go.RowKit.Below.tg {w a b : World} {v : Value} {B E k m : Nat} {xs : List Value} (hb : Below B w a) (hs : B ≤ a.heap.size) (hg : a.grownBy b v.ownBlock) (h : a.ownsRow B E k v m xs) : Below B w b :=
 hb.grown hg hs (fun k hk => (World.ownsRow.lt h k hk).1)
theorem New.ge {w a b : World} {k : Nat} {o : Obj} (h : New a b k o) (hb : w.heap.size ≤ a.heap.size) : w.heap.size ≤ k := by rw [h.num]; exact hb
theorem NE_ge {a b k : Nat} (h : a < k) (g : k ≤ b) : NE a b := by show _ ≠ _; omega
theorem NE_new {w w' : World} {a b : Nat} {o : Obj} (h : a < w.heap.size) (hN : New w w' b o) : NE a b := by have := hN.num; show _ ≠ _; omega
section ops
variable {r : Option Nat} {P : Program} {n : Nat} {Q : Post} {s : Fm} {w : World} {ops : Array Oper} {rest : List Oper}
variable {d : Option Tmp} {ty : TypeId} {pos : String} {af : Array Edge}
variable {t yt : TypeId} {X Y : Operand}
theorem nEq (x y : Nat) (ht : x = y → L r P n ops Q rest (s.put d (.bool true)) w) (hf : x ≠ y → L r P n ops Q rest (s.put d (.bool false)) w) (hx : s.ev n X = .int .i64 x := by kernel_rfl) (hy : s.ev n Y = .int .i64 y := by kernel_rfl) : L r P n ops Q (⟨d, .binOp .eql t X Y yt, ty, pos, af, none⟩ :: rest) s w :=
 xG .i64 x y (x = y) rfl (xI x y) hx hy ht hf
theorem nNe (x y : Nat) (ht : x ≠ y → L r P n ops Q rest (s.put d (.bool true)) w) (hf : x = y → L r P n ops Q rest (s.put d (.bool false)) w) (hx : s.ev n X = .int .i64 x := by kernel_rfl) (hy : s.ev n Y = .int .i64 y := by kernel_rfl) : L r P n ops Q (⟨d, .binOp .neq t X Y yt, ty, pos, af, none⟩ :: rest) s w :=
 xG .i64 x y (x ≠ y) rfl (cmpN_ne x y) hx hy ht (fun h => hf (by omega))
theorem nLt (x y : Nat) (ht : x < y → L r P n ops Q rest (s.put d (.bool true)) w) (hf : y ≤ x → L r P n ops Q rest (s.put d (.bool false)) w) (hx : s.ev n X = .int .i64 x := by kernel_rfl) (hy : s.ev n Y = .int .i64 y := by kernel_rfl) : L r P n ops Q (⟨d, .binOp .lss t X Y yt, ty, pos, af, none⟩ :: rest) s w :=
 xG .i64 x y (x < y) rfl (cmpN_lt x y) hx hy ht (fun h => hf (by omega))
theorem nLe (x y : Nat) (ht : x ≤ y → L r P n ops Q rest (s.put d (.bool true)) w) (hf : y < x → L r P n ops Q rest (s.put d (.bool false)) w) (hx : s.ev n X = .int .i64 x := by kernel_rfl) (hy : s.ev n Y = .int .i64 y := by kernel_rfl) : L r P n ops Q (⟨d, .binOp .leq t X Y yt, ty, pos, af, none⟩ :: rest) s w :=
 xG .i64 x y (x ≤ y) rfl (cmpN_le x y) hx hy ht (fun h => hf (by omega))
theorem nGt (x y : Nat) (ht : y < x → L r P n ops Q rest (s.put d (.bool true)) w) (hf : x ≤ y → L r P n ops Q rest (s.put d (.bool false)) w) (hx : s.ev n X = .int .i64 x := by kernel_rfl) (hy : s.ev n Y = .int .i64 y := by kernel_rfl) : L r P n ops Q (⟨d, .binOp .gtr t X Y yt, ty, pos, af, none⟩ :: rest) s w :=
 xG .i64 x y (y < x) rfl (cmpN_gt x y) hx hy ht (fun h => hf (by omega))
theorem nGe (x y : Nat) (ht : y ≤ x → L r P n ops Q rest (s.put d (.bool true)) w) (hf : x < y → L r P n ops Q rest (s.put d (.bool false)) w) (hx : s.ev n X = .int .i64 x := by kernel_rfl) (hy : s.ev n Y = .int .i64 y := by kernel_rfl) : L r P n ops Q (⟨d, .binOp .geq t X Y yt, ty, pos, af, none⟩ :: rest) s w :=
 xG .i64 x y (y ≤ x) rfl (cmpN_ge x y) hx hy ht (fun h => hf (by omega))
theorem qX (k : IntKind) (x y : Int) (ht : x = y → L r P n ops Q rest (s.put d (.bool true)) w) (hf : x ≠ y → L r P n ops Q rest (s.put d (.bool false)) w) (hx : s.ev n X = .int k x := by kernel_rfl) (hy : s.ev n Y = .int k y := by kernel_rfl) : L r P n ops Q (⟨d, .binOp .eql t X Y yt, ty, pos, af, none⟩ :: rest) s w :=
 xG k x y (x = y) rfl (Zq x y) hx hy ht hf
theorem zNe (k : IntKind) (x y : Int) (ht : x ≠ y → L r P n ops Q rest (s.put d (.bool true)) w) (hf : x = y → L r P n ops Q rest (s.put d (.bool false)) w) (hx : s.ev n X = .int k x := by kernel_rfl) (hy : s.ev n Y = .int k y := by kernel_rfl) : L r P n ops Q (⟨d, .binOp .neq t X Y yt, ty, pos, af, none⟩ :: rest) s w :=
 xG k x y (x ≠ y) rfl (cmp_ne x y) hx hy ht (fun h => hf (by omega))
theorem zLt (k : IntKind) (x y : Int) (ht : x < y → L r P n ops Q rest (s.put d (.bool true)) w) (hf : y ≤ x → L r P n ops Q rest (s.put d (.bool false)) w) (hx : s.ev n X = .int k x := by kernel_rfl) (hy : s.ev n Y = .int k y := by kernel_rfl) : L r P n ops Q (⟨d, .binOp .lss t X Y yt, ty, pos, af, none⟩ :: rest) s w :=
 xG k x y (x < y) rfl (cmp_lt x y) hx hy ht (fun h => hf (by omega))
theorem zLe (k : IntKind) (x y : Int) (ht : x ≤ y → L r P n ops Q rest (s.put d (.bool true)) w) (hf : y < x → L r P n ops Q rest (s.put d (.bool false)) w) (hx : s.ev n X = .int k x := by kernel_rfl) (hy : s.ev n Y = .int k y := by kernel_rfl) : L r P n ops Q (⟨d, .binOp .leq t X Y yt, ty, pos, af, none⟩ :: rest) s w :=
 xG k x y (x ≤ y) rfl (cmp_le x y) hx hy ht (fun h => hf (by omega))
theorem zGt (k : IntKind) (x y : Int) (ht : y < x → L r P n ops Q rest (s.put d (.bool true)) w) (hf : x ≤ y → L r P n ops Q rest (s.put d (.bool false)) w) (hx : s.ev n X = .int k x := by kernel_rfl) (hy : s.ev n Y = .int k y := by kernel_rfl) : L r P n ops Q (⟨d, .binOp .gtr t X Y yt, ty, pos, af, none⟩ :: rest) s w :=
 xG k x y (y < x) rfl (cmp_gt x y) hx hy ht (fun h => hf (by omega))
theorem zGe (k : IntKind) (x y : Int) (ht : y ≤ x → L r P n ops Q rest (s.put d (.bool true)) w) (hf : x < y → L r P n ops Q rest (s.put d (.bool false)) w) (hx : s.ev n X = .int k x := by kernel_rfl) (hy : s.ev n Y = .int k y := by kernel_rfl) : L r P n ops Q (⟨d, .binOp .geq t X Y yt, ty, pos, af, none⟩ :: rest) s w :=
 xG k x y (y ≤ x) rfl (cmp_ge x y) hx hy ht (fun h => hf (by omega))
theorem zw {op : Op} {g : Nat × Bool} (h : L r P n ops Q (⟨d, op, ty, pos, af, none⟩ :: rest) s w) (hg : Option.elim (yl ops n s g.1) false (fun b => b == g.2) = true := by kernel_rfl) : L r P n ops Q (⟨d, op, ty, pos, af, some g⟩ :: rest) s w := L_want hg h
theorem zs {op : Op} {g : Nat × Bool} (h : L r P n ops Q rest (s.put d undef) w) (hg : Option.elim (yl ops n s g.1) false (fun b => b == g.2) = false := by kernel_rfl) : L r P n ops Q (⟨d, op, ty, pos, af, some g⟩ :: rest) s w := L_skip hg h
theorem xJ {c : Operand} (h : L r P n ops Q rest (s.put d (s.ev n X)) w) (hc : s.ev n c = .bool true := by kernel_rfl) : L r P n ops Q (⟨d, .pick c X Y, ty, pos, af, none⟩ :: rest) s w := L_pickT hc h
theorem xF {c : Operand} (h : L r P n ops Q rest (s.put d (s.ev n Y)) w) (hc : s.ev n c = .bool false := by kernel_rfl) : L r P n ops Q (⟨d, .pick c X Y, ty, pos, af, none⟩ :: rest) s w := L_pickF hc h
theorem zT {c : Operand} {x y : Code} (h : W r P n x Q s w) (hc : s.ev n c = .bool true := by kernel_rfl) : W r P n (.cond c x y) Q s w := W_true hc h
theorem zF {c : Operand} {x y : Code} (h : W r P n y Q s w) (hc : s.ev n c = .bool false := by kernel_rfl) : W r P n (.cond c x y) Q s w := W_false hc h
theorem zr {op : Op} (v : Value) (h : L r P n ops Q rest (s.put d v) w) (hrun : (execOp (s.ev n) ⟨d, op, ty, pos, af, none⟩).run P w = .ok (.value v) w := by kernel_rfl) (hd : notDefer op = true := by kernel_rfl) : L r P n ops Q (⟨d, op, ty, pos, af, none⟩ :: rest) s w := L_run v hrun hd h
theorem qO (b : Bool) (h : L r P n ops Q rest (s.put d (.bool (!b))) w) (hx : s.ev n X = .bool b := by kernel_rfl) : L r P n ops Q (⟨d, .unOp .not t X, ty, pos, af, none⟩ :: rest) s w := L_not b hx h
theorem xN (a b : Nat) (h : L r P n ops Q rest (s.put d (.int .i64 ((a + b : Nat) : Int))) w) (hb : a + b ≤ 9223372036854775807 := by omega) (hx : s.ev n X = .int .i64 a := by kernel_rfl) (hy : s.ev n Y = .int .i64 b := by kernel_rfl) : L r P n ops Q (⟨d, .binOp .add t X Y yt, ty, pos, af, none⟩ :: rest) s w := L_addN a b hb hx hy h
theorem zsb (a b : Nat) (h : L r P n ops Q rest (s.put d (.int .i64 ((a - b : Nat) : Int))) w) (hb : b ≤ a := by omega) (ha : a ≤ 9223372036854775807 := by omega) (hx : s.ev n X = .int .i64 a := by kernel_rfl) (hy : s.ev n Y = .int .i64 b := by kernel_rfl) : L r P n ops Q (⟨d, .binOp .sub t X Y yt, ty, pos, af, none⟩ :: rest) s w := L_subN a b hb ha hx hy h
theorem zsl {ats : Array TypeId} (t : TypeId) (a : List UInt8) (h : L r P n ops Q rest (s.put d (.int .i64 (a.length : Nat))) w) (hat : ats[0]? = some t := by rfl) (hu : P.underlying t = some .string := by kernel_rfl) (hx : s.ev n X = S a := by kernel_rfl) : L r P n ops Q (⟨d, .call ⟨.builtin .len, #[X], ats⟩, ty, pos, af, none⟩ :: rest) s w := L_slen t a hat hu hx h
theorem vY {ats : Array TypeId} {E m : Nat} {v : Value} (hu : P.underlying t = some (.slice E)) (hv : ∃ a c, v = .slice a m c) (h : L r P n ops Q rest (s.put d (.int .i64 (m : Nat))) w) (hat : ats[0]? = some t := by rfl) (hx : s.ev n X = v := by kernel_rfl) : L r P n ops Q (⟨d, .call ⟨.builtin .len, #[X], ats⟩, ty, pos, af, none⟩ :: rest) s w := L_len t E m v hat hu hv hx h
theorem zc {op : Op} {f : FuncId} {args : List Value} {R : Value → World → Prop} (hc : Calls P f args.toArray w (Ret R)) (h : ∀ v w', R v w' → L r P n ops Q rest (s.put d v) w') (hrun : (execOp (s.ev n) ⟨d, op, ty, pos, af, none⟩).run P w = .ok (.enter f args.toArray) w := by kernel_rfl) (hd : notDefer op = true := by kernel_rfl) : L r P n ops Q (⟨d, op, ty, pos, af, none⟩ :: rest) s w := L_call f args hrun hd hc h
theorem zN {op : Op} (l : List Value) (E : TypeId) (h : ∀ b w', New w w' b (.cells l.toArray E (0, 0)) → L r P n ops Q rest (s.put d (.pointer (some ⟨b, 0, none⟩))) w') (hrun : (execOp (s.ev n) ⟨d, op, ty, pos, af, none⟩).run P w = .ok (.value (.pointer (some ⟨w.heap.size, 0, none⟩))) (w.alloc (.cells l.toArray E (0, 0))) := by kernel_rfl) (hd : notDefer op = true := by kernel_rfl) : L r P n ops Q (⟨d, op, ty, pos, af, none⟩ :: rest) s w :=
 L_new (fun b => .pointer (some ⟨b, 0, none⟩)) _ hrun hd h
theorem zM {op : Op} (m : Nat) (l : List Value) (E : TypeId) (h : ∀ b w', New w w' b (.cells l.toArray E (0, 0)) → L r P n ops Q rest (s.put d (.slice (some ⟨b, 0, none⟩) m m)) w') (hrun : (execOp (s.ev n) ⟨d, op, ty, pos, af, none⟩).run P w = .ok (.value (.slice (some ⟨w.heap.size, 0, none⟩) m m)) (w.alloc (.cells l.toArray E (0, 0))) := by kernel_rfl) (hd : notDefer op = true := by kernel_rfl) : L r P n ops Q (⟨d, op, ty, pos, af, none⟩ :: rest) s w :=
 L_new (fun b => .slice (some ⟨b, 0, none⟩) m m) _ hrun hd h
theorem zO {b : Nat} {cs : List Value} {E : TypeId} {fz : Nat × Nat} {v : Value} (o : Nat) (hb : w.heap[b]? = some (.cells cs.toArray E fz)) (hv : cs[o]? = some v) (h : L r P n ops Q rest (s.put d v) w) (hx : s.ev n X = .pointer (some ⟨b, o, none⟩) := by kernel_rfl) (ha : (isAgg t).run P w = .ok false w := by kernel_rfl) : L r P n ops Q (⟨d, .load t X, ty, pos, af, none⟩ :: rest) s w :=
 qL b o v hx ha (yI hb (by simpa using hv)) h
theorem zOA {b : Nat} {cs : List Value} {E : TypeId} {fz : Nat × Nat} (o : Nat) (vs : List Value) (hb : w.heap[b]? = some (.cells cs.toArray E fz)) (h : L r P n ops Q rest (s.put d (.agg vs.toArray)) w) (hx : s.ev n X = .pointer (some ⟨b, o, none⟩) := by kernel_rfl) (ha : (isAgg t).run P w = .ok true w := by kernel_rfl) (hz : (sizeOf t).run P w = .ok vs.length w := by kernel_rfl) (he : (cs.drop o).take vs.length = vs := by kernel_rfl) : L r P n ops Q (⟨d, .load t X, ty, pos, af, none⟩ :: rest) s w :=
 xB b o vs hx ha hz (qA hb o he) h
theorem vT {b : Nat} {cs : List Value} {E : TypeId} {fz : Nat × Nat} (hb : w.heap[b]? = some (.cells cs.toArray E fz)) (h : L r P n ops Q rest (s.put d (.agg cs.toArray)) w) (hx : s.ev n X = .pointer (some ⟨b, 0, none⟩) := by kernel_rfl) (ha : (isAgg t).run P w = .ok true w := by kernel_rfl) (hz : (sizeOf t).run P w = .ok cs.length w := by kernel_rfl) : L r P n ops Q (⟨d, .load t X, ty, pos, af, none⟩ :: rest) s w :=
 xB b 0 cs hx ha hz (yE hb) h
theorem wB {b : Nat} {cs : List Value} {E : TypeId} {fz : Nat × Nat} {v : Value} {op : Op} {d1 : Tmp} {d2 : Option Tmp} {ty2 : TypeId} {pos2 : String} {af2 : Array Edge} (o : Nat) (hb : w.heap[b]? = some (.cells cs.toArray E fz)) (hv : cs[o]? = some v)
  (h : L r P n ops Q rest ((s.put (some d1) (.pointer (some ⟨b, o, none⟩))).put d2 v) w)
  (hrun : (execOp (s.ev n) ⟨some d1, op, ty, pos, af, none⟩).run P w = .ok (.value (.pointer (some ⟨b, o, none⟩))) w := by kernel_rfl) (hd : notDefer op = true := by kernel_rfl)
  (hlt : Nat.blt d1 n = true := by kernel_rfl) (ha : (isAgg t).run P w = .ok false w := by kernel_rfl) : L r P n ops Q (⟨some d1, op, ty, pos, af, none⟩ :: ⟨d2, .load t (.tmp d1), ty2, pos2, af2, none⟩ :: rest) s w :=
 L_run _ hrun hd (qL b o v (by simp [Fm.ev, Fm.put, hlt]) ha (yI hb (by simpa using hv)) h)
theorem z1 {b : Nat} {cs : List Value} {E : TypeId} (o : Nat) (v : Value) (cs' : List Value) (hb : w.heap[b]? = some (.cells cs.toArray E (0, 0)))
  (h : ∀ w', Wrote w w' b (.cells cs'.toArray E (0, 0)) → L r P n ops Q rest (s.put d undef) w') (h1 : v.oneCell' = true := by rfl) (hx : s.ev n X = .pointer (some ⟨b, o, none⟩) := by kernel_rfl) (hy : s.ev n Y = v := by kernel_rfl) (hz : (sizeOf t).run P w = .ok 1 w := by kernel_rfl) (ho : Nat.blt o cs.length = true := by rfl) (hcs : cs.set o v = cs' := by rfl) : L r P n ops Q (⟨d, .store t X Y, ty, pos, af, none⟩ :: rest) s w :=
 xC b o v cs cs' E hx hy h1 hz hb (by rw [blt_iff] at ho; simpa using ho) hcs h
theorem zA {b : Nat} {cs : List Value} {E : TypeId} (o : Nat) (vs cs' : List Value) (hb : w.heap[b]? = some (.cells cs.toArray E (0, 0)))
  (h : ∀ w', Wrote w w' b (.cells cs'.toArray E (0, 0)) → L r P n ops Q rest (s.put d undef) w') (h1 : vs.all (·.oneCell') = true := by rfl) (hx : s.ev n X = .pointer (some ⟨b, o, none⟩) := by kernel_rfl) (hy : s.ev n Y = .agg vs.toArray := by kernel_rfl) (hz : (sizeOf t).run P w = .ok vs.length w := by kernel_rfl) (ho : Nat.ble (o + vs.length) cs.length = true := by kernel_rfl) (hcs : cs.take o ++ vs ++ cs.drop (o + vs.length) = cs' := by rfl) : L r P n ops Q (⟨d, .store t X Y, ty, pos, af, none⟩ :: rest) s w :=
 xU b o vs cs cs' E hx hy h1 hz hb ho hcs h
theorem qQ {b : Nat} {cs : List Value} {E : TypeId} (vs : List Value) (hb : w.heap[b]? = some (.cells cs.toArray E (0, 0)))
  (h : ∀ w', Wrote w w' b (.cells vs.toArray E (0, 0)) → L r P n ops Q rest (s.put d undef) w') (h1 : vs.all (·.oneCell') = true := by rfl) (hx : s.ev n X = .pointer (some ⟨b, 0, none⟩) := by kernel_rfl) (hy : s.ev n Y = .agg vs.toArray := by kernel_rfl) (hz : (sizeOf t).run P w = .ok vs.length w := by kernel_rfl) (ho : Nat.beq vs.length cs.length = true := by kernel_rfl) : L r P n ops Q (⟨d, .store t X Y, ty, pos, af, none⟩ :: rest) s w :=
 xU b 0 vs cs vs E hx hy h1 hz hb (by have := Nat.eq_of_beq_eq_true ho; simp [this]) (by have := Nat.eq_of_beq_eq_true ho; simp [this]) h
theorem zE {α : Type} {enc : α → List Value} {v : Value} {xs : List α} {x : α} {u : Value} {I : Operand} {T T2 E ke by_ kf : Nat} {d1 d2 : Tmp} {d3 : Option Tmp} {ty2 ty3 : TypeId} {pos2 pos3 : String} {af2 af3 : Array Edge}
  (hr : Rd w enc v xs) (he : Elem P T E ke by_) (i : Nat) (hi : xs[i]? = some x) (j : Nat) (hu : (enc x)[j]? = some u)
  (h : ∀ p q : Value, L r P n ops Q rest (((s.put (some d1) p).put (some d2) q).put d3 u) w)
  (hk : ∀ x, (enc x).length = ke := by exact fun _ => rfl) (hx : s.ev n X = v := by kernel_rfl) (hii : s.ev n I = .int .i64 i := by kernel_rfl)
  (hf : ∀ g o, (execOp ((s.put (some d1) (.pointer (some ⟨g, o, none⟩))).ev n) ⟨some d2, .fieldAddr T2 (.tmp d1) kf, ty2, pos2, af2, none⟩).run P w = .ok (.value (.pointer (some ⟨g, o + j, none⟩))) w := by exact fun _ _ => by kernel_rfl)
  (hlt : Nat.blt d2 n = true := by kernel_rfl) (ha : (isAgg t).run P w = .ok false w := by kernel_rfl) :
  L r P n ops Q (⟨some d1, .indexAddr T X I, ty, pos, af, none⟩ :: ⟨some d2, .fieldAddr T2 (.tmp d1) kf, ty2, pos2, af2, none⟩ :: ⟨d3, .load t (.tmp d2), ty3, pos3, af3, none⟩ :: rest) s w := by
 obtain ⟨g, off, hl, hc⟩ := hr.at hk hi
 refine yS (k := .i64) v i _ g off he hl (List.getElem?_eq_some_iff.1 hi).1 hx hii (L_run _ (hf g _) rfl ?_)
 exact qL g (off + i * ke + j) u (by simp [Fm.ev, Fm.put, hlt]) ha (hc j u hu) (h _ _)
theorem zE1 {α : Type} {enc : α → List Value} {v : Value} {xs : List α} {x : α} {u : Value} {I : Operand} {T E by_ : Nat} {d1 : Tmp} {d3 : Option Tmp} {ty3 : TypeId} {pos3 : String} {af3 : Array Edge}
  (hr : Rd w enc v xs) (he : Elem P T E 1 by_) (i : Nat) (hi : xs[i]? = some x) (hu : (enc x)[0]? = some u)
  (h : ∀ p : Value, L r P n ops Q rest ((s.put (some d1) p).put d3 u) w)
  (hk : ∀ x, (enc x).length = 1 := by exact fun _ => rfl) (hx : s.ev n X = v := by kernel_rfl) (hii : s.ev n I = .int .i64 i := by kernel_rfl)
  (hlt : Nat.blt d1 n = true := by kernel_rfl) (ha : (isAgg t).run P w = .ok false w := by kernel_rfl) :
  L r P n ops Q (⟨some d1, .indexAddr T X I, ty, pos, af, none⟩ :: ⟨d3, .load t (.tmp d1), ty3, pos3, af3, none⟩ :: rest) s w := by
 obtain ⟨g, off, hl, hc⟩ := hr.at hk hi
 refine yS (k := .i64) v i _ g off he hl (List.getElem?_eq_some_iff.1 hi).1 hx hii ?_
 exact qL g (off + i * 1) u (by simp [Fm.ev, Fm.put, hlt]) ha (hc 0 u hu) (h _)
theorem zEA {α : Type} {enc : α → List Value} {v : Value} {xs : List α} {x : α} {I : Operand} {T E ke by_ : Nat} {d1 : Tmp} {d3 : Option Tmp} {ty3 : TypeId} {pos3 : String} {af3 : Array Edge}
  (hr : Rd w enc v xs) (he : Elem P T E ke by_) (i : Nat) (hi : xs[i]? = some x) (us : List Value) (hu : enc x = us)
  (h : ∀ p : Value, L r P n ops Q rest ((s.put (some d1) p).put d3 (.agg us.toArray)) w)
  (hk : ∀ x, (enc x).length = ke := by exact fun _ => rfl) (hx : s.ev n X = v := by kernel_rfl) (hii : s.ev n I = .int .i64 i := by kernel_rfl)
  (hlt : Nat.blt d1 n = true := by kernel_rfl) (ha : (isAgg t).run P w = .ok true w := by kernel_rfl) (hz : (sizeOf t).run P w = .ok us.length w := by kernel_rfl) :
  L r P n ops Q (⟨some d1, .indexAddr T X I, ty, pos, af, none⟩ :: ⟨d3, .load t (.tmp d1), ty3, pos3, af3, none⟩ :: rest) s w := by
 subst hu
 obtain ⟨g, off, hl, hc⟩ := hr.at hk hi
 refine yS (k := .i64) v i _ g off he hl (List.getElem?_eq_some_iff.1 hi).1 hx hii ?_
 exact xB g (off + i * ke) (enc x) (by simp [Fm.ev, Fm.put, hlt]) ha hz hc (h _)
end ops
def rvs (n : Nat) (s : Fm) (fn : Func) : List Value := fn.results.toList.map fun | .tmp t => s.ev n (.tmp t) | _ => undef
def rOk (fn : Func) : Bool := fn.results.toList.all fun | .tmp _ => true | _ => false
section
variable {P : Program} {n : Nat} {s : Fm} {w : World}
theorem res_vs : ∀ (l : List ResultVar), (l.all fun | .tmp _ => true | _ => false) = true → resOk P n s w l (l.map fun | .tmp t => s.ev n (.tmp t) | _ => undef)
 | [], _ => trivial
 | .tmp t :: l, h => ⟨rfl, res_vs l (by simpa using h)⟩
 | .cell _ _ :: l, h => by simp at h
theorem zZ {fn : Func} {R : Value → World → Prop} (vs : List Value) (h : R (match vs with | [v] => v | _ => .tuple vs.toArray) w) (hv : rvs n s fn = vs := by kernel_rfl) (hr : rOk fn = true := by kernel_rfl) (hd : s.ds = [] := by rfl) : endQ P fn n R .ret s w := by
 subst hv
 have hh : resOk P n s w fn.results.toList (rvs n s fn) := res_vs _ hr
 refine yM fn.results.toList (rvs n s fn) (by simp) hd hh ?_
 clear hr
 generalize rvs n s fn = vs at h hh ⊢
 cases vs with
 | nil => exact h
 | cons v l => cases l <;> exact h
theorem znrm {fn : Func} {R : Value → World → Prop} (vs : List Value) (h : R (match vs with | [v] => v | _ => .tuple vs.toArray) w) (hv : rvs n s fn = vs := by kernel_rfl) (hr : rOk fn = true := by kernel_rfl) (hd : s.ds = [] := by rfl) : endQ P fn n R .normal s w := by
 subst hv
 have hh : resOk P n s w fn.results.toList (rvs n s fn) := res_vs _ hr
 refine end_normal fn.results.toList (rvs n s fn) (by simp) hd hh ?_
 clear hr
 generalize rvs n s fn = vs at h hh ⊢
 cases vs with
 | nil => exact h
 | cons v l => cases l <;> exact h
end
def putS (s : Fm) : List Nat → List Value → Fm
  | d :: ds, v :: vs => putS (s.put (some d) v) ds vs
  | _, _ => s
theorem W_setL {r : Option Nat} {P : Program} {n : Nat} {c : Code} {Q : Post} {w : World} : ∀ (ts : List Nat) (vs : List Value) (s : Fm), ts.map s.f = vs → W r P n c Q (putS s ts vs) w → W r P n c Q s w
 | [], [], _, _, h => h
 | t :: ts, v :: vs, s, he, h => by
  simp only [List.map_cons, List.cons.injEq] at he
  refine W_set t v he.1 ?_
  refine W_setL ts vs _ ?_ h
  obtain ⟨a, b⟩ := he
  rw [← b]
  refine List.map_congr_left fun i _ => ?_
  show (bif Nat.beq i t then v else s.f i) = s.f i
  cases hq : Nat.beq i t with
  | false => rfl
  | true => rw [Nat.eq_of_beq_eq_true hq]; exact a.symm
 | [], _ :: _, _, he, _ => by simp at he
 | _ :: _, [], _, he, _ => by simp at he
theorem yX {r : Option Nat} {P : Program} {n : Nat} {c : Code} {Q : Post} {s : Fm} {w : World} {ts : List Nat} {vs : List Value} (h : ts.map s.f = vs) (k : W r P n c Q (putS s ts vs) w) : W r P n c Q s w := W_setL ts vs s h k
end Go.FK
end

/- === FKar === -/
section
/- FKar: more short laws for the walks' texts. My own text. -/
namespace Go.FK
open Go Go.RowKit
theorem zh {p : Prop} (h : p := by simp only [arithZ]; omega) : p := h
theorem zi {p : Prop} (h : p := by simp) : p := h
theorem zj {α : Sort _} {p : α → Prop} (h : ∀ x, p x := by exact fun _ => rfl) : ∀ x, p x := h
theorem zf {α : Sort _} {p : α → Prop} (h : ∀ x, p x := by intro _; kernel_rfl) : ∀ x, p x := h
theorem zg {α : Sort _} {β : α → Sort _} {p : (x : α) → β x → Prop} (h : ∀ x y, p x y := by intro _ _; kernel_rfl) : ∀ x y, p x y := h
theorem e6 {a b : Int} (h : a = b) : Value.int .i64 a = Value.int .i64 b := by rw [h]
theorem e3 {a b : Int} (h : a = b) : Value.int .i32 a = Value.int .i32 b := by rw [h]
theorem eu {a b : Int} (h : a = b) : Value.int .u8 a = Value.int .u8 b := by rw [h]
theorem e8 {a b : Int} (h : a = b) : Value.int .i8 a = Value.int .i8 b := by rw [h]
theorem eb {a b : Bool} (h : a = b) : Value.bool a = Value.bool b := by rw [h]
section
variable {r : Option Nat} {P : Program} {n : Nat} {Q Q2 : Post} {s : Fm} {w : World} {ops : Array Oper}
theorem wJ (k : Nat) {f : FuncId} {fn : Func} {c : Code} {args : List Value} {R : Value → World → Prop} (hf : P.funcs[f]? = some fn) (hb : fn.body = some c) (h : W none P k c (endQ P fn k R) ⟨fun i => args.getD i undef, []⟩ w) (hn : fn.ntmps = k := by kernel_rfl) (hk : Nat.ble args.length k = true := by kernel_rfl) : Calls P f args.toArray w (Ret R) :=
 enter hf hb hn hk h
theorem nQ {K : Fm → World → Prop} (h : K s w) : L r P n ops (thenQ K Q) [] s w := zQ (zB h)
theorem nW {x y : Code} (h : W r P n x (thenQ (W r P n y Q) Q) s w) : L r P n ops (thenQ (W r P n (.seq x y) Q) Q2) [] s w := zQ (zB (yA h))
theorem wR {id : Nat} {l : List Oper} {y : Code} (h : L r P n l.toArray (thenQ (W r P n y Q) Q) l s w) : W r P n (.seq (.region id l.toArray false) y) Q s w := yA (zP h)
theorem nR {id : Nat} {l : List Oper} {y : Code} (h : L r P n l.toArray (thenQ (W r P n y Q) Q) l s w) : L r P n ops (thenQ (W r P n (.seq (.region id l.toArray false) y) Q) Q2) [] s w := zQ (zB (yA (zP h)))
end
section
variable {P : Program} {n : Nat} {Q : Post} {s : Fm} {w : World} {ops : Array Oper} {S : World → Prop} {fuel : Nat} {listed : Array Bool}
theorem ht (i : Nat) {o : Oper} (hi : ops[i]? = some o) (v : Value) (hS : S w) (hrun : RunOk P n o s S v) (h : Lh P n ops Q S fuel (listed.setIfInBounds i true) (s.put o.dst v) w)
  (hs : Region.noSelect ops = true := by kernel_rfl) (hf : Region.free .any ops listed i = true := by kernel_rfl) (hr : (Region.ready .any ops listed).contains i = true := by kernel_rfl) (hw : wantB ops n s o.guard = true := by kernel_rfl)
  (hq : NoPanic Q := by with_reducible repeat first | exact noPanic_end | exact noPanic_endM | exact noPanic_round | apply noPanic_then | apply noPanic_blk | apply noPanic_jmp) : Lh P n ops Q S (fuel + 1) listed s w :=
 H_take i v hi hs hf hr hq hS hw hrun h
theorem hp (i : Nat) {o : Oper} (hi : ops[i]? = some o) (v : Value) (hS : S w) (h : Lh P n ops Q S fuel (listed.setIfInBounds i true) (s.put o.dst v) w)
  (hs : Region.noSelect ops = true := by kernel_rfl) (hf : Region.free .any ops listed i = true := by kernel_rfl) (hr : (Region.ready .any ops listed).contains i = true := by kernel_rfl) (hw : wantB ops n s o.guard = true := by kernel_rfl)
  (hq : NoPanic Q := by with_reducible repeat first | exact noPanic_end | exact noPanic_endM | exact noPanic_round | apply noPanic_then | apply noPanic_blk | apply noPanic_jmp) (hrun : RunOk P n o s S v := by intro _ _; kernel_rfl) : Lh P n ops Q S (fuel + 1) listed s w :=
 H_take i v hi hs hf hr hq hS hw hrun h
theorem ip (i : Nat) {o : Oper} (hi : ops[i]? = some o) (v : Value) (h : Li P n ops Q fuel (listed.setIfInBounds i true) (s.put o.dst v) w)
  (hs : Region.noSelect ops = true := by kernel_rfl) (hf : Region.free .any ops listed i = true := by kernel_rfl) (hr : (Region.ready .any ops listed).contains i = true := by kernel_rfl) (hc : noCall o.op = true := by kernel_rfl) (hw : wantB ops n s o.guard = true := by kernel_rfl)
  (hq : NoPanic Q := by with_reducible repeat first | exact noPanic_end | exact noPanic_endM | exact noPanic_round | apply noPanic_then | apply noPanic_blk | apply noPanic_jmp) (hrun : ∀ w', (execOp (s.ev n) o).run P w' = .ok (.value v) w' := by intro _; kernel_rfl) : Li P n ops Q (fuel + 1) listed s w :=
 I_take i v hi hs hf hr hc hq hw hrun h
end
section
variable {P : Program} {n : Nat} {s : Fm} {w : World} {ops : Array Oper} {rest : List Oper} {K : Fm → Prop} {d : Option Tmp} {ty : TypeId} {pos : String} {af : Array Edge} {c X Y : Operand}
theorem qw {op : Op} {g : Nat × Bool} (h : Lq P n ops w K (⟨d, op, ty, pos, af, none⟩ :: rest) s) (hg : Option.elim (yl ops n s g.1) false (fun b => b == g.2) = true := by kernel_rfl) : Lq P n ops w K (⟨d, op, ty, pos, af, some g⟩ :: rest) s := Lq_want hg h
theorem qs {op : Op} {g : Nat × Bool} (h : Lq P n ops w K rest (s.put d undef)) (hg : Option.elim (yl ops n s g.1) false (fun b => b == g.2) = false := by kernel_rfl) : Lq P n ops w K (⟨d, op, ty, pos, af, some g⟩ :: rest) s := Lq_skip hg h
theorem qT (h : Lq P n ops w K rest (s.put d (s.ev n X))) (hc : s.ev n c = .bool true := by kernel_rfl) : Lq P n ops w K (⟨d, .pick c X Y, ty, pos, af, none⟩ :: rest) s := Lq_pickT hc h
theorem qF (h : Lq P n ops w K rest (s.put d (s.ev n Y))) (hc : s.ev n c = .bool false := by kernel_rfl) : Lq P n ops w K (⟨d, .pick c X Y, ty, pos, af, none⟩ :: rest) s := Lq_pickF hc h
theorem qr {op : Op} (v : Value) (h : Lq P n ops w K rest (s.put d v)) (hrun : ∀ w', (execOp (s.ev n) ⟨d, op, ty, pos, af, none⟩).run P w' = .ok (.value v) w' := by intro _; kernel_rfl) : Lq P n ops w K (⟨d, op, ty, pos, af, none⟩ :: rest) s := yB v hrun h
end
end Go.FK
end
