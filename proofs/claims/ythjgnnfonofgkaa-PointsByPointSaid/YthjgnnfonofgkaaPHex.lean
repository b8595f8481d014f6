/- Plain functions of chapter 4: code points in hexadecimal. -/
import Derived.Test.YthjgnnfonofgkaaFKr
set_option linter.unusedVariables false
namespace Go.FK
open Go Go.RowKit
def hexTab : List UInt8 := [48, 49, 50, 51, 52, 53, 54, 55, 56, 57, 65, 66, 67, 68, 69, 70]
def digitV (c : Nat) : Int := if 48 ≤ c ∧ c ≤ 57 then (c : Int) - 48 else if 65 ≤ c ∧ c ≤ 70 then (c : Int) - 55 else -1
def ibF (s : List UInt8) (c : Int) : Int := Lib.indexByte s c.toNat.toUInt8
theorem digitV_range (c : Nat) : -1 ≤ digitV c ∧ digitV c ≤ 15 := by
  unfold digitV; repeat' split
  all_goals omega
set_option maxRecDepth 100000 in
theorem ibF_tab (c : UInt8) : ibF [48, 49, 50, 51, 52, 53, 54, 55, 56, 57, 65, 66, 67, 68, 69, 70] ((c.toNat : Nat) : Int) = digitV c.toNat := by
  have key : (List.range 256).all (fun n => Lib.indexByte hexTab (UInt8.ofNat n) == digitV n) = true := by kernel_rfl
  have h := List.all_eq_true.1 key c.toNat (List.mem_range.2 (by have := c.toNat_lt; omega))
  have h2 : Lib.indexByte hexTab (UInt8.ofNat c.toNat) = digitV c.toNat := by simpa using h
  unfold ibF
  rw [Int.toNat_natCast]
  exact h2
def hexV : List UInt8 → Nat → Option Nat
  | [], n => some n
  | c :: l, n => if digitV c.toNat < 0 then none else hexV l (16 * n + (digitV c.toNat).toNat)
def hexF (s : List UInt8) : Int × Int :=
  if (s.length < 4 ∨ 6 < s.length) ∨ (4 < s.length ∧ s.getD 0 0 = 48) then (0, 40) else
  match hexV s 0 with
  | none => (0, 40)
  | some n => if 1114111 < n then (0, 40) else ((n : Int), 0)
theorem hexF_len {s : List UInt8} (h : s.length < 4 ∨ 6 < s.length) : hexF s = (0, 40) := by unfold hexF; rw [if_pos (.inl h)]
theorem hexF_zero {s : List UInt8} {c : UInt8} (h : 4 < s.length) (hc : s[0]? = some c) (h0 : c.toNat = 48) : hexF s = (0, 40) := by
  have : c = 48 := UInt8.toNat_inj.1 h0
  unfold hexF; rw [if_pos (.inr ⟨h, by rw [List.getD_eq_getElem?_getD, hc, this]; rfl⟩)]
theorem hexF_bad {s : List UInt8} {i n : Nat} {c : UInt8} (hi : hexV (s.drop i) n = hexV s 0) (hc : s[i]? = some c) (hd : digitV c.toNat < 0) : hexF s = (0, 40) := by
  rw [drop_some hc, hexV, if_pos hd] at hi
  unfold hexF
  split
  · rfl
  · rw [← hi]
theorem hexV_step {s : List UInt8} {i n : Nat} {c : UInt8} (hi : hexV (s.drop i) n = hexV s 0) (hc : s[i]? = some c) (hd : 0 ≤ digitV c.toNat) : hexV (s.drop (i + 1)) (16 * n + (digitV c.toNat).toNat) = hexV s 0 := by
  rw [drop_some hc, hexV, if_neg (by omega)] at hi
  exact hi
theorem hexV_end {s : List UInt8} {i n : Nat} (hi : hexV (s.drop i) n = hexV s 0) (h : s.length ≤ i) : hexV s 0 = some n := by
  rw [List.drop_eq_nil_of_le h, hexV] at hi; exact hi.symm
theorem hexF_big {s : List UInt8} {n : Nat} (h : hexV s 0 = some n) (hn : 1114111 < n) : hexF s = (0, 40) := by
  unfold hexF
  split
  · rfl
  · rw [h]; simp only; rw [if_pos hn]
theorem hexF_ok {s : List UInt8} {n : Nat} (h : hexV s 0 = some n) (hn : n ≤ 1114111) (h1 : 4 ≤ s.length) (h2 : s.length ≤ 6) (h3 : s.length ≤ 4 ∨ ∃ c, s[0]? = some c ∧ c.toNat ≠ 48) : hexF s = ((n : Int), 0) := by
  unfold hexF
  rw [if_neg, h]
  · simp only; rw [if_neg (by omega)]
  · intro hx
    rcases hx with hx | ⟨hx, h0⟩
    · omega
    · rcases h3 with h3 | ⟨c, hc, hne⟩
      · omega
      · rw [List.getD_eq_getElem?_getD, hc] at h0
        apply hne
        have : c = 48 := h0
        rw [this]; rfl
theorem pow16 {i n : Nat} (h : n < 16 ^ i) (hi : i ≤ 5) : n < 1048576 := by
  have := Nat.pow_le_pow_right (n := 16) (by omega) hi
  omega
theorem pow16s {i n b : Nat} (h : n < 16 ^ i) (hb : b < 16) : 16 * n + b < 16 ^ (i + 1) := by
  rw [Nat.pow_succ]; omega
theorem pow166 {i n : Nat} (h : n < 16 ^ i) (hi : i ≤ 6) : n < 16777216 := by
  have := Nat.pow_le_pow_right (n := 16) (by omega) hi
  omega
theorem mayB_eq {lo hi : Int} : (decide (0 ≤ lo) && decide (lo ≤ hi) && decide (hi ≤ 1114111)) = decide (0 ≤ lo ∧ lo ≤ hi ∧ hi ≤ 1114111) := by
  rw [Bool.eq_iff_iff]; simp [and_assoc]
def mayF (lo hi : Int) : Bool := decide (0 ≤ lo ∧ lo ≤ hi ∧ hi ≤ 1114111)
theorem mayF_true {lo hi : Int} (h1 : 0 ≤ lo) (h2 : lo ≤ hi) (h3 : hi ≤ 1114111) : mayF lo hi = true := decide_eq_true ⟨h1, h2, h3⟩
theorem mayF_false {lo hi : Int} (h : ¬ (0 ≤ lo ∧ lo ≤ hi ∧ hi ≤ 1114111)) : mayF lo hi = false := decide_eq_false h
end Go.FK
namespace Go.FK
open Go Go.RowKit
/-! ### digits -/
theorem dig_found {i : Nat} {c : UInt8} (h : ([48, 49, 50, 51, 52, 53, 54, 55, 56, 57, 65, 66, 67, 68, 69, 70] : List UInt8)[i]? = some c) : digitV c.toNat = (i : Int) := by
  have hi : i < 16 := by have := (List.getElem?_eq_some_iff.1 h).1; simpa using this
  have key : ∀ i : Nat, i < 16 → digitV (hexTab.getD i 0).toNat = ((i : Nat) : Int) := by decide
  have e : hexTab.getD i 0 = c := by rw [List.getD_eq_getElem?_getD]; exact congrArg (fun o => Option.getD o 0) h
  rw [← e]; exact key i hi
theorem dig_none {b : Nat} (h : ∀ (j : Nat) (c : UInt8), j < 16 → ([48, 49, 50, 51, 52, 53, 54, 55, 56, 57, 65, 66, 67, 68, 69, 70] : List UInt8)[j]? = some c → c.toNat ≠ b) : digitV b = -1 := by
  unfold digitV
  split
  · rename_i hb
    exfalso
    have key : ∀ j : Nat, j < 10 → hexTab[j]? = some (UInt8.ofNat (48 + j)) ∧ (UInt8.ofNat (48 + j)).toNat = 48 + j := by decide
    obtain ⟨hc, he⟩ := key (b - 48) (by omega)
    exact h (b - 48) _ (by omega) hc (by omega)
  · split
    · rename_i hb
      exfalso
      have key : ∀ j : Nat, j < 6 → hexTab[10 + j]? = some (UInt8.ofNat (65 + j)) ∧ (UInt8.ofNat (65 + j)).toNat = 65 + j := by decide
      obtain ⟨hc, he⟩ := key (b - 65) (by omega)
      exact h (10 + (b - 65)) _ (by omega) hc (by omega)
    · rfl
def digInv (b : Int) (i : Nat) : Prop := ∀ (j : Nat) (c : UInt8), j < i → ([48, 49, 50, 51, 52, 53, 54, 55, 56, 57, 65, 66, 67, 68, 69, 70] : List UInt8)[j]? = some c → (c.toNat : Int) ≠ b
theorem digInv_zero (b : Int) : digInv b 0 := fun j c h => by omega
theorem digInv_succ {b : Int} {i : Nat} {c : UInt8} (h : digInv b i) (hc : ([48, 49, 50, 51, 52, 53, 54, 55, 56, 57, 65, 66, 67, 68, 69, 70] : List UInt8)[i]? = some c) (hne : (c.toNat : Int) ≠ b) : digInv b (i + 1) := by
  intro j c' hj hc'
  rcases Nat.lt_or_ge j i with h1 | h1
  · exact h j c' h1 hc'
  · obtain rfl : j = i := by omega
    rw [hc] at hc'; cases hc'; exact hne
theorem digInv_end {b : Int} {i : Nat} (h : digInv b i) (hi : 16 ≤ i) (hb : 0 ≤ b) : digitV b.toNat = -1 :=
  dig_none fun j c hj hc he => h j c (by omega) hc (by omega)
/-! ### written -/
def hexDig (n i : Nat) : UInt8 := hexTab.getD (n / 16 ^ i % 16) 0
def cntD (n : Nat) : Nat := if n < 65536 then 4 else if n < 1048576 then 5 else 6
def digsD (n l : Nat) : List UInt8 := ((List.range l).map (hexDig n)).reverse
def showF (r : Int) : List UInt8 × Int := if r < 0 ∨ 1114111 < r then ([], 40) else (digsD r.toNat (cntD r.toNat), 0)
theorem digsD_len (n l : Nat) : (digsD n l).length = l := by simp [digsD]
theorem cntD_le (n : Nat) : 4 ≤ cntD n ∧ cntD n ≤ 6 := by
  unfold cntD
  split
  · omega
  · split <;> omega
theorem cnt_lt {n l : Nat} (h : 0 < n / 16 ^ l) (hn : n ≤ 1114111) (hl : l ≤ cntD n) : l < cntD n := by
  rcases Nat.lt_or_ge l (cntD n) with h1 | h1
  · exact h1
  · exfalso
    obtain rfl : l = cntD n := by omega
    have : n / 16 ^ cntD n = 0 := by
      apply Nat.div_eq_of_lt
      unfold cntD
      split
      · simpa using by assumption
      · split
        · simpa using by assumption
        · simp; omega
    omega
theorem cnt_end {n l : Nat} (h : n / 16 ^ l = 0) (h4 : 4 ≤ l) (hl : l ≤ cntD n) : l = cntD n := by
  have hlt : n < 16 ^ l := by
    rcases Nat.lt_or_ge n (16 ^ l) with h1 | h1
    · exact h1
    · have := Nat.div_pos h1 (Nat.pow_pos (n := l) (show 0 < 16 by omega)); omega
  rcases Nat.lt_or_ge l (cntD n) with h1 | h1
  · exfalso
    unfold cntD at h1
    split at h1
    · omega
    · split at h1
      · obtain rfl : l = 4 := by omega
        simp at hlt; omega
      · have e : l = 4 ∨ l = 5 := by omega
        rcases e with rfl | rfl <;> (simp at hlt; omega)
  · omega
theorem digs_succ {n l : Nat} {c : UInt8} (hc : hexTab[n / 16 ^ l % 16]? = some c) : c :: digsD n l = digsD n (l + 1) := by
  unfold digsD
  rw [List.range_succ, List.map_append, List.reverse_append]
  have : hexDig n l = c := by unfold hexDig; rw [List.getD_eq_getElem?_getD, hc]; rfl
  simp [this]
theorem bytesI_u8 (c : UInt8) : bytesI [((c.toNat : Nat) : Int)] = [c] := by simp [bytesI]
end Go.FK
namespace Go.FK
/-! ### spans -/
def showSpanF (lo hi : Int) : List UInt8 × Int := if mayF lo hi = false then ([], 41) else if lo = hi then ((showF lo).1, 0) else ((showF lo).1 ++ [46, 46] ++ (showF hi).1, 0)
theorem showF_bad {r : Int} (h : r < 0 ∨ 1114111 < r) : showF r = ([], 40) := by unfold showF; rw [if_pos h]
theorem showF_ok {r : Int} (h1 : 0 ≤ r) (h2 : r ≤ 1114111) : showF r = (digsD r.toNat (cntD r.toNat), 0) := by unfold showF; rw [if_neg (by omega)]
theorem showF_len (r : Int) : (showF r).1.length ≤ 6 := by
  unfold showF
  split
  · simp
  · simp only; rw [digsD_len]; exact (cntD_le _).2
def dotsN (s : List UInt8) : Nat → Nat → Option Nat
  | 0, _ => none
  | f + 1, i => if i + 1 < s.length then (if s.getD i 0 = 46 ∧ s.getD (i + 1) 0 = 46 then some i else dotsN s f (i + 1)) else none
def dotsFrom (s : List UInt8) (i : Nat) : Option Nat := dotsN s (s.length - i) i
theorem dotsFrom_step {s : List UInt8} {i : Nat} (h : i + 1 < s.length) : dotsFrom s i = if s.getD i 0 = 46 ∧ s.getD (i + 1) 0 = 46 then some i else dotsFrom s (i + 1) := by
  unfold dotsFrom
  rw [show s.length - i = (s.length - (i + 1)) + 1 by omega, dotsN, if_pos h]
theorem dotsFrom_end {s : List UInt8} {i : Nat} (h : s.length ≤ i + 1) : dotsFrom s i = none := by
  unfold dotsFrom
  cases hn : s.length - i with
  | zero => rfl
  | succ m => rw [dotsN, if_neg (by omega)]
def spanF (s : List UInt8) : Int × Int × Int :=
  match dotsFrom s 0 with
  | none => if (hexF s).2 ≠ 0 then (0, 0, (hexF s).2) else ((hexF s).1, (hexF s).1, 0)
  | some a => if (hexF (s.take a)).2 ≠ 0 ∨ (hexF (s.drop (a + 2))).2 ≠ 0 then (0, 0, 40) else if (hexF (s.drop (a + 2))).1 < (hexF (s.take a)).1 then (0, 0, 41) else ((hexF (s.take a)).1, (hexF (s.drop (a + 2))).1, 0)
theorem getD_some {s : List UInt8} {i : Nat} {c : UInt8} (h : s[i]? = some c) : s.getD i 0 = c := by rw [List.getD_eq_getElem?_getD, h]; rfl
theorem u8_46 {c : UInt8} : c = 46 ↔ c.toNat = 46 := ⟨fun h => by rw [h]; rfl, fun h => UInt8.toNat_inj.1 h⟩
theorem dots_hit {s : List UInt8} {i : Nat} {c d : UInt8} (hc : s[i]? = some c) (hd : s[i + 1]? = some d) (h1 : c.toNat = 46) (h2 : d.toNat = 46) : dotsFrom s i = some i := by
  rw [dotsFrom_step (List.getElem?_eq_some_iff.1 hd).1, if_pos ⟨by rw [getD_some hc]; exact u8_46.2 h1, by rw [getD_some hd]; exact u8_46.2 h2⟩]
theorem dots_miss1 {s : List UInt8} {i : Nat} {c : UInt8} (hi : i + 1 < s.length) (hc : s[i]? = some c) (h1 : c.toNat ≠ 46) : dotsFrom s i = dotsFrom s (i + 1) := by
  rw [dotsFrom_step hi, if_neg (fun h => h1 (u8_46.1 (by rw [← getD_some hc]; exact h.1)))]
theorem dots_miss2 {s : List UInt8} {i : Nat} {d : UInt8} (hi : i + 1 < s.length) (hd : s[i + 1]? = some d) (h1 : d.toNat ≠ 46) : dotsFrom s i = dotsFrom s (i + 1) := by
  rw [dotsFrom_step hi, if_neg (fun h => h1 (u8_46.1 (by rw [← getD_some hd]; exact h.2)))]
def atInv (s : List UInt8) (i : Nat) (at_ : Int) : Prop := (at_ = -1 ∧ dotsFrom s i = dotsFrom s 0) ∨ (0 ≤ at_ ∧ at_.toNat + 1 < s.length ∧ dotsFrom s 0 = some at_.toNat)
theorem at_zero (s : List UInt8) : atInv s 0 (-1) := .inl ⟨rfl, rfl⟩
theorem at_miss {s : List UInt8} {i : Nat} {a : Int} (h : atInv s i a) (ha : a < 0) (e : dotsFrom s i = dotsFrom s (i + 1)) : atInv s (i + 1) a := by
  rcases h with ⟨h1, h2⟩ | ⟨h1, _⟩
  · exact .inl ⟨h1, by rw [← e]; exact h2⟩
  · omega
theorem at_hit {s : List UInt8} {i : Nat} {a : Int} (h : atInv s i a) (ha : a < 0) (hi : i + 1 < s.length) (e : dotsFrom s i = some i) : atInv s (i + 1) ((i : Nat) : Int) := by
  rcases h with ⟨h1, h2⟩ | ⟨h1, _⟩
  · exact .inr ⟨by omega, by simpa using hi, by rw [← h2, e]; simp⟩
  · omega
theorem at_none {s : List UInt8} {i : Nat} {a : Int} (h : atInv s i a) (ha : a < 0) (hi : s.length ≤ i + 1) : dotsFrom s 0 = none := by
  rcases h with ⟨h1, h2⟩ | ⟨h1, _⟩
  · rw [← h2]; exact dotsFrom_end hi
  · omega
theorem at_some {s : List UInt8} {i : Nat} {a : Int} (h : atInv s i a) (ha : 0 ≤ a) : dotsFrom s 0 = some a.toNat ∧ a.toNat + 1 < s.length := by
  rcases h with ⟨h1, h2⟩ | ⟨_, h1, h2⟩
  · omega
  · exact ⟨h2, h1⟩
end Go.FK
namespace Go.FK
open Go Go.RowKit
theorem show_step {r : Nat} {acc : List UInt8} {z : Int} {c : UInt8} (i2 : z = ((r / 16 ^ acc.length : Nat) : Int)) (i3 : acc = digsD r acc.length) (hc : ([48, 49, 50, 51, 52, 53, 54, 55, 56, 57, 65, 66, 67, 68, 69, 70] : List UInt8)[(z % 16).toNat]? = some c) :
    (bytesI [((c.toNat : Nat) : Int)] ++ acc).length = acc.length + 1 ∧ z / 16 = ((r / 16 ^ (bytesI [((c.toNat : Nat) : Int)] ++ acc).length : Nat) : Int) ∧ bytesI [((c.toNat : Nat) : Int)] ++ acc = digsD r (bytesI [((c.toNat : Nat) : Int)] ++ acc).length := by
  have hl : (bytesI [((c.toNat : Nat) : Int)] ++ acc).length = acc.length + 1 := by rw [bytesI_u8]; rfl
  refine ⟨hl, ?_, ?_⟩
  · rw [hl, Nat.pow_succ, ← Nat.div_div_eq_div_mul]
    generalize r / 16 ^ acc.length = q at *; omega
  · rw [hl, bytesI_u8]
    have h : hexTab[r / 16 ^ acc.length % 16]? = some c := by
      have e : r / 16 ^ acc.length % 16 = (z % 16).toNat := by generalize r / 16 ^ acc.length = q at *; omega
      rw [e]; exact hc
    rw [← digs_succ h, ← i3]; rfl
theorem show_end {r : Nat} {acc : List UInt8} {z : Int} (i1 : acc.length ≤ cntD r) (i2 : z = ((r / 16 ^ acc.length : Nat) : Int)) (i3 : acc = digsD r acc.length) (hz : z ≤ 0) (h4 : 4 ≤ acc.length) : acc = digsD r (cntD r) := by
  have hq : r / 16 ^ acc.length = 0 := by generalize r / 16 ^ acc.length = q at i2 ⊢; omega
  have he := cnt_end (n := r) (l := acc.length) hq h4 i1
  rw [← he]; exact i3
theorem show_facts {r : Nat} {acc : List UInt8} {z : Int} (i1 : acc.length ≤ cntD r) (i2 : z = ((r / 16 ^ acc.length : Nat) : Int)) (hr : r ≤ 1114111) : 0 ≤ z ∧ z ≤ 1114111 ∧ (0 < z → acc.length < cntD r) := by
  have hd := Nat.div_le_self r (16 ^ acc.length)
  refine ⟨?_, ?_, fun h => cnt_lt ?_ hr i1⟩ <;> (generalize r / 16 ^ acc.length = q at *; omega)
theorem showSpan_bad {lo hi : Int} (h : mayF lo hi = false) : showSpanF lo hi = ([], 41) := by unfold showSpanF; rw [if_pos h]
theorem showSpan_one {lo hi : Int} (h : mayF lo hi = true) (e : lo = hi) : showSpanF lo hi = ((showF lo).1, 0) := by unfold showSpanF; rw [if_neg (by rw [h]; decide), if_pos e]
theorem showSpan_two {lo hi : Int} (h : mayF lo hi = true) (e : lo ≠ hi) : showSpanF lo hi = ((showF lo).1 ++ [46, 46] ++ (showF hi).1, 0) := by unfold showSpanF; rw [if_neg (by rw [h]; decide), if_neg e]
theorem span_none {s : List UInt8} (h : dotsFrom s 0 = none) : spanF s = if (hexF s).2 ≠ 0 then (0, 0, (hexF s).2) else ((hexF s).1, (hexF s).1, 0) := by unfold spanF; rw [h]
theorem span_some {s : List UInt8} {a : Nat} (h : dotsFrom s 0 = some a) : spanF s = if (hexF (s.take a)).2 ≠ 0 ∨ (hexF (s.drop (a + 2))).2 ≠ 0 then (0, 0, 40) else if (hexF (s.drop (a + 2))).1 < (hexF (s.take a)).1 then (0, 0, 41) else ((hexF (s.take a)).1, (hexF (s.drop (a + 2))).1, 0) := by unfold spanF; rw [h]
end Go.FK
namespace Go.FK
open Go Go.RowKit
def lowB (l : List UInt8) : List Int := l.reverse.map fun c => (c.toNat : Int)
theorem lowB_len (l : List UInt8) : (lowB l).length = l.length := by simp [lowB]
theorem lowB_back (l : List UInt8) : bytesI (List.reverse (lowB l)) = l := by
  unfold lowB bytesI
  rw [← List.map_reverse, List.reverse_reverse, List.map_map]
  have : ((fun n : Int => UInt8.ofNat n.toNat) ∘ fun c : UInt8 => (c.toNat : Int)) = id := by
    funext c; simp
  rw [this, List.map_id]
theorem show_stepR {r : Nat} {acc : List Int} {z : Int} {c : UInt8} (i2 : z = ((r / 16 ^ acc.length : Nat) : Int)) (i3 : acc = lowB (digsD r acc.length)) (hc : ([48, 49, 50, 51, 52, 53, 54, 55, 56, 57, 65, 66, 67, 68, 69, 70] : List UInt8)[z.toNat % 16]? = some c) :
    z / 16 = ((r / 16 ^ (acc ++ [((c.toNat : Nat) : Int)]).length : Nat) : Int) ∧ acc ++ [((c.toNat : Nat) : Int)] = lowB (digsD r (acc ++ [((c.toNat : Nat) : Int)]).length) := by
  have hl : (acc ++ [((c.toNat : Nat) : Int)]).length = acc.length + 1 := by simp
  rw [hl]
  refine ⟨?_, ?_⟩
  · rw [Nat.pow_succ, ← Nat.div_div_eq_div_mul]
    generalize r / 16 ^ acc.length = q at *; omega
  · have h : hexTab[r / 16 ^ acc.length % 16]? = some c := by
      have e : r / 16 ^ acc.length % 16 = z.toNat % 16 := by generalize r / 16 ^ acc.length = q at *; omega
      rw [e]; exact hc
    rw [← digs_succ h]
    unfold lowB
    rw [List.reverse_cons, List.map_append]
    congr 1
theorem show_factsR {r : Nat} {acc : List Int} {z : Int} (i1 : acc.length ≤ cntD r) (i2 : z = ((r / 16 ^ acc.length : Nat) : Int)) (hr : r ≤ 1114111) : 0 ≤ z ∧ z ≤ 1114111 ∧ (0 < z → acc.length < cntD r) := by
  have hd := Nat.div_le_self r (16 ^ acc.length)
  refine ⟨?_, ?_, fun h => cnt_lt ?_ hr i1⟩ <;> (generalize r / 16 ^ acc.length = q at *; omega)
theorem show_endR {r : Nat} {acc : List Int} {z : Int} (i1 : acc.length ≤ cntD r) (i2 : z = ((r / 16 ^ acc.length : Nat) : Int)) (i3 : acc = lowB (digsD r acc.length)) (hz : z ≤ 0) (h4 : 4 ≤ acc.length) : bytesI (List.reverse acc) = digsD r (cntD r) := by
  have hq : r / 16 ^ acc.length = 0 := by generalize r / 16 ^ acc.length = q at i2 ⊢; omega
  have he := cnt_end (n := r) (l := acc.length) hq h4 i1
  rw [i3, lowB_back, he]
end Go.FK
namespace Go.FK
open Go Go.RowKit
/-! ### the library's cut -/
theorem getD_drop {s : List UInt8} {i : Nat} {b : UInt8} {l : List UInt8} (h : s.drop i = b :: l) : s.getD i 0 = b ∧ s.drop (i + 1) = l ∧ i < s.length := by
  have hi : i < s.length := by
    rcases Nat.lt_or_ge i s.length with h1 | h1
    · exact h1
    · rw [List.drop_eq_nil_of_le h1] at h; cases h
  rw [List.drop_eq_getElem_cons hi] at h
  injection h with h1 h2
  refine ⟨?_, h2, hi⟩
  rw [List.getD_eq_getElem?_getD, List.getElem?_eq_getElem hi]; exact h1
theorem dots_index (s : List UInt8) : ∀ (n i : Nat), s.length - i ≤ n → (dotsFrom s i = none ∧ Lib.index (s.drop i) [46, 46] = -1) ∨ (∃ a : Nat, i ≤ a ∧ dotsFrom s i = some a ∧ Lib.index (s.drop i) [46, 46] = (a : Int) - i) := by
  intro n
  induction n with
  | zero =>
    intro i hn
    left
    rw [List.drop_eq_nil_of_le (by omega)]
    exact ⟨dotsFrom_end (by omega), by decide⟩
  | succ n ih =>
    intro i hn
    cases hd : s.drop i with
    | nil =>
      left
      have := congrArg List.length hd
      simp at this
      exact ⟨dotsFrom_end (by omega), by decide⟩
    | cons b l =>
      obtain ⟨e1, e2, hi⟩ := getD_drop hd
      have ih' := ih (i + 1) (by omega)
      rw [e2] at ih'
      unfold Lib.index
      cases l with
      | nil =>
        left
        have : s.length ≤ i + 1 := by have := congrArg List.length e2; simp at this; omega
        refine ⟨dotsFrom_end this, ?_⟩
        rw [if_neg (by simp [List.isPrefixOf])]
        rfl
      | cons c l' =>
        obtain ⟨f1, f2, hi2⟩ := getD_drop e2
        rw [dotsFrom_step hi2, e1, f1]
        by_cases hbc : b = 46 ∧ c = 46
        · right
          obtain ⟨rfl, rfl⟩ := hbc
          refine ⟨i, Nat.le_refl _, by rw [if_pos ⟨rfl, rfl⟩], ?_⟩
          rw [if_pos (by simp [List.isPrefixOf])]; omega
        · rw [if_neg hbc, if_neg (by
            intro hp
            simp [List.isPrefixOf] at hp
            exact hbc ⟨hp.1.symm, hp.2.symm⟩)]
          rcases ih' with ⟨h1, h2⟩ | ⟨a, h1, h2, h3⟩
          · left
            exact ⟨h1, by rw [h2]; rfl⟩
          · right
            refine ⟨a, by omega, h2, ?_⟩
            rw [h3, if_neg (by simp; omega)]; omega
theorem cut_dots (s : List UInt8) : (dotsFrom s 0 = none ∧ Lib.cut s [46, 46] = (s, [], false)) ∨ (∃ a : Nat, dotsFrom s 0 = some a ∧ Lib.cut s [46, 46] = (s.take a, s.drop (a + 2), true)) := by
  have h := dots_index s _ 0 (Nat.le_refl _)
  rw [List.drop_zero] at h
  rcases h with ⟨h1, h2⟩ | ⟨a, _, h1, h2⟩
  · left
    refine ⟨h1, ?_⟩
    unfold Lib.cut; rw [h2, if_neg (by omega)]
  · right
    refine ⟨a, h1, ?_⟩
    unfold Lib.cut; rw [h2, if_pos (by omega)]
    have : ((a : Int) - (0 : Nat)).toNat = a := by omega
    rw [this]; rfl
theorem hexF_err (s : List UInt8) : (hexF s).2 = 0 ∨ (hexF s).2 = 40 := by
  unfold hexF
  split
  · exact .inr rfl
  · split
    · exact .inr rfl
    · split
      · exact .inr rfl
      · exact .inl rfl
theorem cut_len (s sep : List UInt8) : (Lib.cut s sep).1.length ≤ s.length ∧ (Lib.cut s sep).2.1.length ≤ s.length := by
  unfold Lib.cut
  split
  · simp only [List.length_take, List.length_drop]; omega
  · simp
theorem nt {b : Bool} (h : (!b) = true) : b = false := by cases b <;> simp_all
theorem nf {b : Bool} (h : (!b) = false) : ¬ b = false := by cases b <;> simp_all
/-- What the program's span does. -/
theorem span_cut (s : List UInt8) : spanF s = if (hexF (Lib.cut s [46, 46]).1).2 ≠ 0 then (0, 0, (hexF (Lib.cut s [46, 46]).1).2) else if (Lib.cut s [46, 46]).2.2 = false then ((hexF (Lib.cut s [46, 46]).1).1, (hexF (Lib.cut s [46, 46]).1).1, 0) else
    if (hexF (Lib.cut s [46, 46]).2.1).2 ≠ 0 then (0, 0, (hexF (Lib.cut s [46, 46]).2.1).2) else if (hexF (Lib.cut s [46, 46]).2.1).1 < (hexF (Lib.cut s [46, 46]).1).1 then (0, 0, 41) else ((hexF (Lib.cut s [46, 46]).1).1, (hexF (Lib.cut s [46, 46]).2.1).1, 0) := by
  rcases cut_dots s with ⟨h1, h2⟩ | ⟨a, h1, h2⟩
  · rw [span_none h1, h2]
    simp only
    split <;> simp
  · rw [span_some h1, h2]
    simp only
    have e1 := hexF_err (s.take a)
    have e2 := hexF_err (s.drop (a + 2))
    rcases e1 with e1 | e1 <;> rcases e2 with e2 | e2 <;> simp [e1, e2]
end Go.FK
