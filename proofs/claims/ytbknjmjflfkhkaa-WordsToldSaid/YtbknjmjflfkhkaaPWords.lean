/- PWords: the plain functions of chapter 05 (words): no program in sight. -/
import Derived.Test.YtbknjmjflfkhkaaFKe
namespace Go.FK
open Go

/-! ### 5.1 -/
def blankB (r : Int) : Bool := r == 9 || r == 11 || r == 12 || r == 32 || r == 133 || r == 160 || r == 5760 || r == 8232 || r == 8233 || r == 8239 || r == 8287 || r == 12288 || (decide (8192 ≤ r) && decide (r ≤ 8202))
/-- A text's characters from a byte on; so many at most. -/
def runesN (s : List UInt8) : Nat → Nat → List Int
  | 0, _ => []
  | n + 1, pos => if pos < s.length then ((dec s pos).1 : Int) :: runesN s n (pos + (dec s pos).2) else []
theorem runesN_end {s : List UInt8} : ∀ {n pos : Nat}, s.length ≤ pos → runesN s n pos = []
  | 0, _, _ => rfl
  | n + 1, pos, h => by rw [runesN, if_neg (by omega)]
theorem runesN_fuel {s : List UInt8} : ∀ (n m pos : Nat), s.length - pos ≤ n → s.length - pos ≤ m → runesN s n pos = runesN s m pos := by
  intro n
  induction n with
  | zero => intro m pos h _; rw [runesN_end (by omega), runesN_end (by omega)]
  | succ n ih =>
    intro m pos hn hm
    by_cases h : pos < s.length
    · cases m with
      | zero => omega
      | succ m =>
        have := dec_pos s pos
        rw [runesN, runesN, if_pos h, if_pos h, ih m _ (by omega) (by omega)]
    · rw [runesN_end (by omega), runesN_end (by omega)]
/-- A text's characters from a byte on. -/
def runesFrom (s : List UInt8) (pos : Nat) : List Int := runesN s (s.length - pos) pos
theorem runesFrom_step {s : List UInt8} {pos : Nat} (h : pos < s.length) : runesFrom s pos = ((dec s pos).1 : Int) :: runesFrom s (pos + (dec s pos).2) := by
  have := dec_pos s pos
  unfold runesFrom
  rw [runesN_fuel (s.length - pos) (s.length - pos + 1) pos (by omega) (by omega), runesN, if_pos h]
  rw [runesN_fuel (s.length - pos) (s.length - (pos + (dec s pos).2)) _ (by omega) (by omega)]
theorem runesFrom_end {s : List UInt8} {pos : Nat} (h : s.length ≤ pos) : runesFrom s pos = [] := runesN_end h
/-- The words of a text, from a character on; 'fr': where the word that is open began, or -1. -/
def wordsN (s : List UInt8) : Nat → Nat → Int → List (Int × List UInt8)
  | 0, _, fr => if 0 ≤ fr then [(fr, s.drop fr.toNat)] else []
  | n + 1, pos, fr =>
    if pos < s.length then
      if blankB (dec s pos).1 = true then
        if 0 ≤ fr then (fr, (s.take pos).drop fr.toNat) :: wordsN s n (pos + (dec s pos).2) (-1) else wordsN s n (pos + (dec s pos).2) fr
      else if fr < 0 then wordsN s n (pos + (dec s pos).2) pos else wordsN s n (pos + (dec s pos).2) fr
    else if 0 ≤ fr then [(fr, s.drop fr.toNat)] else []
theorem wordsN_end {s : List UInt8} : ∀ {n pos : Nat} {fr : Int}, s.length ≤ pos → wordsN s n pos fr = if 0 ≤ fr then [(fr, s.drop fr.toNat)] else []
  | 0, _, _, _ => rfl
  | n + 1, pos, fr, h => by rw [wordsN, if_neg (by omega)]
theorem wordsN_fuel {s : List UInt8} : ∀ (n m pos : Nat) (fr : Int), s.length - pos ≤ n → s.length - pos ≤ m → wordsN s n pos fr = wordsN s m pos fr := by
  intro n
  induction n with
  | zero => intro m pos fr h _; rw [wordsN_end (by omega), wordsN_end (by omega)]
  | succ n ih =>
    intro m pos fr hn hm
    by_cases h : pos < s.length
    · cases m with
      | zero => omega
      | succ m =>
        have := dec_pos s pos
        rw [wordsN, wordsN, if_pos h, if_pos h, ih m _ (-1) (by omega) (by omega), ih m _ fr (by omega) (by omega), ih m _ pos (by omega) (by omega)]
    · rw [wordsN_end (by omega), wordsN_end (by omega)]
def wordsFrom (s : List UInt8) (pos : Nat) (fr : Int) : List (Int × List UInt8) := wordsN s (s.length - pos) pos fr
theorem wordsFrom_step {s : List UInt8} {pos : Nat} {fr c : Int} (h : pos < s.length) (hc : c = ((dec s pos).1 : Int)) : wordsFrom s pos fr =
      if blankB c = true then
        if 0 ≤ fr then (fr, (s.take pos).drop fr.toNat) :: wordsFrom s (pos + (dec s pos).2) (-1) else wordsFrom s (pos + (dec s pos).2) fr
      else if fr < 0 then wordsFrom s (pos + (dec s pos).2) pos else wordsFrom s (pos + (dec s pos).2) fr := by
  have := dec_pos s pos
  subst hc
  unfold wordsFrom
  have e : ∀ fr, wordsN s (s.length - pos) (pos + (dec s pos).2) fr = wordsN s (s.length - (pos + (dec s pos).2)) (pos + (dec s pos).2) fr := fun fr => wordsN_fuel _ _ _ _ (by omega) (by omega)
  rw [wordsN_fuel (s.length - pos) (s.length - pos + 1) pos fr (by omega) (by omega), wordsN, if_pos h, e, e, e]
theorem wordsFrom_end {s : List UInt8} {pos : Nat} {fr : Int} (h : s.length ≤ pos) : wordsFrom s pos fr = if 0 ≤ fr then [(fr, s.drop fr.toNat)] else [] := wordsN_end h
def wordsOf (s : List UInt8) : List (Int × List UInt8) := wordsFrom s 0 (-1)
theorem wordsN_length (s : List UInt8) : ∀ (n pos : Nat) (fr : Int), (wordsN s n pos fr).length ≤ n + 1 := by
  intro n
  induction n with
  | zero => intro pos fr; unfold wordsN; split <;> simp
  | succ n ih =>
    intro pos fr
    unfold wordsN
    have := ih (pos + (dec s pos).2)
    split
    · split
      · split
        · have := this (-1); simp only [List.length_cons]; omega
        · have := this fr; omega
      · split
        · have := this pos; omega
        · have := this fr; omega
    · split <;> simp
theorem wordsN_mem (s : List UInt8) : ∀ (n pos : Nat) (fr : Int), ∀ x ∈ wordsN s n pos fr, x.2.length ≤ s.length := by
  intro n
  induction n with
  | zero => intro pos fr x hx; unfold wordsN at hx; split at hx <;> simp at hx; subst hx; simp
  | succ n ih =>
    intro pos fr x hx
    unfold wordsN at hx
    split at hx
    · split at hx
      · split at hx
        · rcases List.mem_cons.1 hx with rfl | hx
          · simp; omega
          · exact ih _ _ x hx
        · exact ih _ _ x hx
      · split at hx
        · exact ih _ _ x hx
        · exact ih _ _ x hx
    · split at hx <;> simp at hx; subst hx; simp
theorem words_len {s : List UInt8} {pre : List (Int × List UInt8)} {x : Int × List UInt8} (h : pre ++ [x] <+: wordsOf s) : x.2.length ≤ s.length ∧ pre.length ≤ s.length := by
  refine ⟨wordsN_mem s _ _ _ x (h.subset (by simp)), ?_⟩
  have h1 := h.length_le
  have h2 : (wordsOf s).length ≤ s.length - 0 + 1 := wordsN_length s _ _ _
  simp at h1
  omega
theorem pre_of {α : Type} {pre rest els : List α} {x : α} (h : pre ++ x :: rest = els) : pre ++ [x] <+: els := ⟨rest, by simp [← h]⟩
/-! ### 5.2 -/
def dropB (r : Int) : Bool := blankB r || r == 95 || r == 45
def lowerI (r : Int) : Int := if 65 ≤ r ∧ r ≤ 90 then r + 32 else r
def looseL (l : List Int) : List Int := (l.filter (fun r => !dropB r)).map lowerI
theorem looseL_nil : looseL [] = [] := rfl
theorem looseL_drop {r : Int} {l : List Int} (h : dropB r = true) : looseL (r :: l) = looseL l := by simp [looseL, h]
theorem looseL_keep {r : Int} {l : List Int} (h : dropB r = false) : looseL (r :: l) = lowerI r :: looseL l := by simp [looseL, h]
theorem looseL_cons (r : Int) (l : List Int) : looseL (r :: l) = if dropB r then looseL l else lowerI r :: looseL l := by
  cases h : dropB r <;> simp [looseL, h]
def looseS (s : List UInt8) : List UInt8 := encL (looseL (runesFrom s 0))
def alikeB (a b : List UInt8) : Bool := decide (looseS a = looseS b)
/-! ### 5.3 -/
def shortTab : List (List UInt8) := [[], [76], [82], [65, 76], [69, 78], [69, 83], [69, 84], [65, 78], [67, 83], [78, 83, 77], [66, 78], [66], [83], [87, 83], [79, 78], [76, 82, 69], [76, 82, 79], [82, 76, 69], [82, 76, 79], [80, 68, 70], [76, 82, 73], [82, 76, 73], [70, 83, 73], [80, 68, 73]]
def longTab : List (List UInt8) := [[], [76, 101, 102, 116, 95, 84, 111, 95, 82, 105, 103, 104, 116], [82, 105, 103, 104, 116, 95, 84, 111, 95, 76, 101, 102, 116], [65, 114, 97, 98, 105, 99, 95, 76, 101, 116, 116, 101, 114], [69, 117, 114, 111, 112, 101, 97, 110, 95, 78, 117, 109, 98, 101, 114], [69, 117, 114, 111, 112, 101, 97, 110, 95, 83, 101, 112, 97, 114, 97, 116, 111, 114], [69, 117, 114, 111, 112, 101, 97, 110, 95, 84, 101, 114, 109, 105, 110, 97, 116, 111, 114], [65, 114, 97, 98, 105, 99, 95, 78, 117, 109, 98, 101, 114], [67, 111, 109, 109, 111, 110, 95, 83, 101, 112, 97, 114, 97, 116, 111, 114], [78, 111, 110, 115, 112, 97, 99, 105, 110, 103, 95, 77, 97, 114, 107], [66, 111, 117, 110, 100, 97, 114, 121, 95, 78, 101, 117, 116, 114, 97, 108], [80, 97, 114, 97, 103, 114, 97, 112, 104, 95, 83, 101, 112, 97, 114, 97, 116, 111, 114], [83, 101, 103, 109, 101, 110, 116, 95, 83, 101, 112, 97, 114, 97, 116, 111, 114], [87, 104, 105, 116, 101, 95, 83, 112, 97, 99, 101], [79, 116, 104, 101, 114, 95, 78, 101, 117, 116, 114, 97, 108], [76, 101, 102, 116, 95, 84, 111, 95, 82, 105, 103, 104, 116, 95, 69, 109, 98, 101, 100, 100, 105, 110, 103], [76, 101, 102, 116, 95, 84, 111, 95, 82, 105, 103, 104, 116, 95, 79, 118, 101, 114, 114, 105, 100, 101], [82, 105, 103, 104, 116, 95, 84, 111, 95, 76, 101, 102, 116, 95, 69, 109, 98, 101, 100, 100, 105, 110, 103], [82, 105, 103, 104, 116, 95, 84, 111, 95, 76, 101, 102, 116, 95, 79, 118, 101, 114, 114, 105, 100, 101], [80, 111, 112, 95, 68, 105, 114, 101, 99, 116, 105, 111, 110, 97, 108, 95, 70, 111, 114, 109, 97, 116], [76, 101, 102, 116, 95, 84, 111, 95, 82, 105, 103, 104, 116, 95, 73, 115, 111, 108, 97, 116, 101], [82, 105, 103, 104, 116, 95, 84, 111, 95, 76, 101, 102, 116, 95, 73, 115, 111, 108, 97, 116, 101], [70, 105, 114, 115, 116, 95, 83, 116, 114, 111, 110, 103, 95, 73, 115, 111, 108, 97, 116, 101], [80, 111, 112, 95, 68, 105, 114, 101, 99, 116, 105, 111, 110, 97, 108, 95, 73, 115, 111, 108, 97, 116, 101]]
def shortS (c : Int) : List UInt8 := if 1 ≤ c ∧ c ≤ 23 then shortTab.getD c.toNat [] else []
def longS (c : Int) : List UInt8 := if 1 ≤ c ∧ c ≤ 23 then longTab.getD c.toNat [] else []
theorem shortTab_len : shortTab.length = 24 := rfl
theorem longTab_len : longTab.length = 24 := rfl
theorem shortS_none {c : Int} (h : c < 1 ∨ 23 < c) : shortS c = [] := by unfold shortS; rw [if_neg (by omega)]
theorem longS_none {c : Int} (h : c < 1 ∨ 23 < c) : longS c = [] := by unfold longS; rw [if_neg (by omega)]
theorem shortS_tab {c : Int} {x : List UInt8} (h : 0 ≤ c) (hx : shortTab[c.toNat]? = some x) : x = shortS c := by
  have e : shortTab.getD c.toNat [] = x := by rw [List.getD_eq_getElem?_getD, hx]; rfl
  by_cases h0 : c = 0
  · subst h0; rw [← e]; rfl
  · obtain ⟨hlt, _⟩ := List.getElem?_eq_some_iff.1 hx
    rw [shortTab_len] at hlt
    unfold shortS; rw [if_pos (by omega), e]
theorem longS_tab {c : Int} {x : List UInt8} (h : 0 ≤ c) (hx : longTab[c.toNat]? = some x) : x = longS c := by
  have e : longTab.getD c.toNat [] = x := by rw [List.getD_eq_getElem?_getD, hx]; rfl
  by_cases h0 : c = 0
  · subst h0; rw [← e]; rfl
  · obtain ⟨hlt, _⟩ := List.getElem?_eq_some_iff.1 hx
    rw [longTab_len] at hlt
    unfold longS; rw [if_pos (by omega), e]
def shortF (c : Int) : List UInt8 := if 15 ≤ c then shortS c else []
def longF (c : Int) : List UInt8 := if 15 ≤ c then longS c else []
theorem shortF_eq {c : Int} (h : c < 1 ∨ 15 ≤ c) : shortF c = shortS c := by
  unfold shortF
  split
  · rfl
  · unfold shortS; rw [if_neg (by omega)]
theorem longF_eq {c : Int} (h : c < 1 ∨ 15 ≤ c) : longF c = longS c := by
  unfold longF
  split
  · rfl
  · unfold longS; rw [if_neg (by omega)]
theorem shortF_none {c : Int} (h : c < 15 ∨ 23 < c) : shortF c = [] := by
  unfold shortF
  split
  · unfold shortS; rw [if_neg (by omega)]
  · rfl
theorem longF_none {c : Int} (h : c < 15 ∨ 23 < c) : longF c = [] := by
  unfold longF
  split
  · unfold longS; rw [if_neg (by omega)]
  · rfl
theorem tab_ne : ∀ c : Nat, c < 23 → shortTab.getD (c + 1) [] ≠ [] ∧ longTab.getD (c + 1) [] ≠ [] := by decide
theorem shortS_nil {c : Int} : shortS c = [] ↔ ¬ (1 ≤ c ∧ c ≤ 23) := by
  unfold shortS
  split
  · rename_i h
    have := (tab_ne (c.toNat - 1) (by omega)).1
    rw [show c.toNat - 1 + 1 = c.toNat by omega] at this
    exact ⟨fun e => absurd e this, fun e => absurd h e⟩
  · rename_i h; exact ⟨fun _ => h, fun _ => rfl⟩
theorem longS_nil {c : Int} : longS c = [] ↔ ¬ (1 ≤ c ∧ c ≤ 23) := by
  unfold longS
  split
  · rename_i h
    have := (tab_ne (c.toNat - 1) (by omega)).2
    rw [show c.toNat - 1 + 1 = c.toNat by omega] at this
    exact ⟨fun e => absurd e this, fun e => absurd h e⟩
  · rename_i h; exact ⟨fun _ => h, fun _ => rfl⟩
theorem tab_len : ∀ c : Nat, c < 23 → (shortTab.getD (c + 1) []).length ≤ 30 ∧ (longTab.getD (c + 1) []).length ≤ 30 := by decide
theorem shortS_len (c : Int) : (shortS c).length ≤ 30 := by
  unfold shortS
  split
  · have := (tab_len (c.toNat - 1) (by omega)).1
    rwa [show c.toNat - 1 + 1 = c.toNat by omega] at this
  · simp
theorem longS_len (c : Int) : (longS c).length ≤ 30 := by
  unfold longS
  split
  · have := (tab_len (c.toNat - 1) (by omega)).2
    rwa [show c.toNat - 1 + 1 = c.toNat by omega] at this
  · simp
def toldE (c : Int) : Int := if 1 ≤ c ∧ c ≤ 23 then 0 else 2
theorem toldE_nil {c : Int} (h : shortS c = []) : toldE c = 2 := by unfold toldE; rw [if_neg (shortS_nil.1 h)]
theorem toldE_ok {c : Int} (h : ¬ shortS c = []) : toldE c = 0 := by
  unfold toldE; rw [if_pos]; exact Decidable.byContradiction fun hx => h (shortS_nil.2 hx)
def classN (name : List UInt8) : Nat → Int → Int × Int
  | 0, _ => (0, 50)
  | n + 1, c => if c ≤ 23 then if alikeB name (shortS c) = true then (c, 0) else if alikeB name (longS c) = true then (c, 0) else classN name n (c + 1) else (0, 50)
def classFrom (name : List UInt8) (c : Int) : Int × Int := classN name (24 - c).toNat c
theorem classFrom_step {name : List UInt8} {c : Int} (h : c ≤ 23) : classFrom name c = if alikeB name (shortS c) = true then (c, 0) else if alikeB name (longS c) = true then (c, 0) else classFrom name (c + 1) := by
  unfold classFrom
  obtain ⟨n, hn⟩ : ∃ n, (24 - c).toNat = n + 1 := ⟨(24 - c).toNat - 1, by omega⟩
  rw [hn, classN, if_pos h, show (24 - (c + 1)).toNat = n by omega]
theorem classFrom_end {name : List UInt8} {c : Int} (h : 23 < c) : classFrom name c = (0, 50) := by
  unfold classFrom
  rw [show (24 - c).toNat = 0 by omega]; rfl
def classF (name : List UInt8) : Int × Int := classFrom name 1
/-! ### 5.4 -/
def cstep (st : List Int × Int × Int) (x : Int × List UInt8) : List Int × Int × Int :=
  if st.2.2 ≠ 0 then st else if (classF x.2).2 ≠ 0 then ([], x.1, (classF x.2).2) else (st.1 ++ [(classF x.2).1], 0, 0)
theorem cstep_err {st : List Int × Int × Int} (h : st.2.2 ≠ 0) : ∀ l : List (Int × List UInt8), l.foldl cstep st = st := by
  intro l
  induction l with
  | nil => rfl
  | cons x l ih => rw [List.foldl_cons, show cstep st x = st by unfold cstep; rw [if_pos h]]; exact ih
def classesF (s : List UInt8) : List Int × Int × Int := (wordsOf s).foldl cstep ([], 0, 0)
/-! ### 5.5 -/
def letterS (c : Int) : List UInt8 := if c = 0 then [110] else if c = 1 then [111] else if c = 2 then [99] else []
def letterE (c : Int) : Int := if c = 0 ∨ c = 1 ∨ c = 2 then 0 else 2
theorem letterS_none {c : Int} (h : 2 < c) : letterS c = [] := by unfold letterS; rw [if_neg (by omega), if_neg (by omega), if_neg (by omega)]
theorem letterS_tab {c : Int} {x : UInt8} (h : 0 ≤ c) (h2 : c ≤ 2) (hx : ([110, 111, 99] : List UInt8)[c.toNat]? = some x) : bytesI [((x.toNat : Nat) : Int)] = letterS c := by
  have e : c = 0 ∨ c = 1 ∨ c = 2 := by omega
  rcases e with rfl | rfl | rfl <;> (cases hx; rfl)
def sideTab : List (List UInt8) := [[78, 111, 110, 101], [79, 112, 101, 110], [67, 108, 111, 115, 101]]
def sideN (name : List UInt8) : List (List UInt8) → Int → Int × Int
  | [], _ => (0, 51)
  | x :: l, c => if alikeB name (letterS c) = true then (c, 0) else if alikeB name x = true then (c, 0) else sideN name l (c + 1)
def sideFrom (name : List UInt8) (k : Nat) : Int × Int := sideN name (sideTab.drop k) k
theorem sideFrom_step {name x : List UInt8} {k : Nat} (h : sideTab[k]? = some x) : sideFrom name k = if alikeB name (letterS k) = true then ((k : Int), 0) else if alikeB name x = true then ((k : Int), 0) else sideFrom name (k + 1) := by
  unfold sideFrom
  rw [drop_some h, sideN]; rfl
theorem sideFrom_end {name : List UInt8} {k : Nat} (h : 3 ≤ k) : sideFrom name k = (0, 51) := by
  unfold sideFrom
  rw [List.drop_eq_nil_of_le (by simpa [sideTab] using h)]; rfl
theorem sideTab_len {k : Nat} {x : List UInt8} (h : sideTab[k]? = some x) : x.length ≤ 30 := by
  have : ∀ y ∈ sideTab, y.length ≤ 30 := by decide
  exact this x (List.mem_of_getElem? h)
theorem letterS_len (c : Int) : (letterS c).length ≤ 30 := by
  unfold letterS; repeat' split
  all_goals simp
def sideF (name : List UInt8) : Int × Int := sideFrom name 0
end Go.FK
