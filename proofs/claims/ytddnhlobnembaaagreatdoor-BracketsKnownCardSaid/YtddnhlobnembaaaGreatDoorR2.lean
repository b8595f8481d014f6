/- Joined by my program pack2.py out of my own texts: PHexM PWordM PBr3 PScn PBr4 FKaq FKar Wllines Wlscan Wlread Wccor FKl FKi FKab FKad FKae FKan FKao FKaf FKag FKah FKap FKbc FKbd FKai Wcb1. -/
import Derived.Lib.ItoaNum
import Derived.Test.YtddnhlobnembaaaGreatDoorProg
import Derived.Tactics2
import Derived.Shelf.Strings.BuilderK
import Derived.Lib.OthersKept
import Derived.Lib.FrozenHead2
import Derived.Lib.Builder
import Derived.Laws.CopyRow
import Derived.Lib.Overlaps
import Derived.Lib.AppendZerosOnto
import Derived.OrdersHeld
import Derived.OrdersIn
import Derived.Shelf.SlMaps.Clone
import Derived.RangeFuncBound
import Derived.Test.YtddnhlobnembaaaGreatDoorR1
set_option linter.unusedVariables false
set_option linter.unusedSimpArgs false
/- === PHexM === -/
section
/- Plain functions of chapter 4: code points in hexadecimal. -/
namespace Go.FK
open Go Go.RowKit
def hexTab : List UInt8 := [48, 49, 50, 51, 52, 53, 54, 55, 56, 57, 65, 66, 67, 68, 69, 70]
def digitV (c : Nat) : Int := if 48 ≤ c ∧ c ≤ 57 then (c : Int) - 48 else if 65 ≤ c ∧ c ≤ 70 then (c : Int) - 55 else -1
theorem digitV_range (c : Nat) : -1 ≤ digitV c ∧ digitV c ≤ 15 := by
 unfold digitV; repeat' split
 all_goals omega
set_option maxRecDepth 100000 in
theorem ibF_tab (c : UInt8) : ibF [48, 49, 50, 51, 52, 53, 54, 55, 56, 57, 65, 66, 67, 68, 69, 70] ((c.toNat : Nat) : Int) = digitV c.toNat := by
 have key : (List.range 256).all (fun n => Lib.indexByte hexTab (UInt8.ofNat n) == digitV n) = true := by kernel_rfl
 have h := List.all_eq_true.1 key c.toNat (List.mem_range.2 (by have := c.toNat_lt; omega))
 have a : Lib.indexByte hexTab (UInt8.ofNat c.toNat) = digitV c.toNat := by simpa using h
 unfold ibF
 rw [Int.toNat_natCast]
 exact a
def hexV : List UInt8 → Nat → Option Nat
  | [], n => some n
  | c :: l, n => if digitV c.toNat < 0 then none else hexV l (16 * n + (digitV c.toNat).toNat)
def hexF (s : List UInt8) : Int × Int :=
  if (s.length < 4 ∨ 6 < s.length) ∨ (4 < s.length ∧ s.getD 0 0 = 48) then (0, 40) else
  match hexV s 0 with
  | none => (0, 40)
  | some n => if 1114111 < n then (0, 40) else ((n : Int), 0)
theorem hexF_len {s : List UInt8} (h : s.length < 4 ∨ 6 < s.length) : hexF s = (0, 40) := by unfold hexF; rw [if_pos (.inl h)]
theorem hexF_zero {s : List UInt8} {c : UInt8} (h : 4 < s.length) (hc : s[0]? = some c) (h0 : c.toNat = 48) : hexF s = (0, 40) := by
 have : c = 48 := UInt8.toNat_inj.1 h0
 unfold hexF; rw [if_pos (.inr ⟨h, by rw [List.getD_eq_getElem?_getD, hc, this]; rfl⟩)]
theorem hexF_bad {s : List UInt8} {i n : Nat} {c : UInt8} (hi : hexV (s.drop i) n = hexV s 0) (hc : s[i]? = some c) (hd : digitV c.toNat < 0) : hexF s = (0, 40) := by
 rw [wW hc, hexV, if_pos hd] at hi
 unfold hexF
 split
 ·rfl
 ·rw [← hi]
theorem hexV_step {s : List UInt8} {i n : Nat} {c : UInt8} (hi : hexV (s.drop i) n = hexV s 0) (hc : s[i]? = some c) (hd : 0 ≤ digitV c.toNat) : hexV (s.drop (i + 1)) (16 * n + (digitV c.toNat).toNat) = hexV s 0 := by
 rw [wW hc, hexV, if_neg (by omega)] at hi
 exact hi
theorem hexV_end {s : List UInt8} {i n : Nat} (hi : hexV (s.drop i) n = hexV s 0) (h : s.length ≤ i) : hexV s 0 = some n := by
 rw [List.drop_eq_nil_of_le h, hexV] at hi; exact hi.symm
theorem hexF_big {s : List UInt8} {n : Nat} (h : hexV s 0 = some n) (hn : 1114111 < n) : hexF s = (0, 40) := by
 unfold hexF
 split
 ·rfl
 ·rw [h]; simp only; rw [if_pos hn]
theorem hexF_ok {s : List UInt8} {n : Nat} (h : hexV s 0 = some n) (hn : n ≤ 1114111) (h1 : 4 ≤ s.length) (h2 : s.length ≤ 6) (h3 : s.length ≤ 4 ∨ ∃ c, s[0]? = some c ∧ c.toNat ≠ 48) : hexF s = ((n : Int), 0) := by
 unfold hexF
 rw [if_neg, h]
 ·simp only; rw [if_neg (by omega)]
 ·intro hx
  rcases hx with hx | ⟨hx, a⟩
  ·omega
  ·rcases h3 with h3 | ⟨c, hc, hne⟩
   ·omega
   ·rw [List.getD_eq_getElem?_getD, hc] at a
    apply hne
    have : c = 48 := a
    rw [this]; rfl
theorem pow16 {i n : Nat} (h : n < 16 ^ i) (hi : i ≤ 5) : n < 1048576 := by
 have := Nat.pow_le_pow_right (n := 16) (by omega) hi
 omega
theorem pow16s {i n b : Nat} (h : n < 16 ^ i) (hb : b < 16) : 16 * n + b < 16 ^ (i + 1) := by
 rw [Nat.pow_succ]; omega
theorem pow166 {i n : Nat} (h : n < 16 ^ i) (hi : i ≤ 6) : n < 16777216 := by
 have := Nat.pow_le_pow_right (n := 16) (by omega) hi
 omega
def mayF (lo hi : Int) : Bool := decide (0 ≤ lo ∧ lo ≤ hi ∧ hi ≤ 1114111)
end Go.FK
namespace Go.FK
open Go Go.RowKit
def digInv (b : Int) (i : Nat) : Prop := ∀ (j : Nat) (c : UInt8), j < i → ([48, 49, 50, 51, 52, 53, 54, 55, 56, 57, 65, 66, 67, 68, 69, 70] : List UInt8)[j]? = some c → (c.toNat : Int) ≠ b
def hexDig (n i : Nat) : UInt8 := hexTab.getD (n / 16 ^ i % 16) 0
def cntD (n : Nat) : Nat := if n < 65536 then 4 else if n < 1048576 then 5 else 6
def digsD (n l : Nat) : List UInt8 := ((List.range l).map (hexDig n)).reverse
def showF (r : Int) : List UInt8 × Int := if r < 0 ∨ 1114111 < r then ([], 40) else (digsD r.toNat (cntD r.toNat), 0)
theorem digsD_len (n l : Nat) : (digsD n l).length = l := by simp [digsD]
theorem cntD_le (n : Nat) : 4 ≤ cntD n ∧ cntD n ≤ 6 := by
 unfold cntD
 split
 ·omega
 ·split <;> omega
theorem cnt_lt {n l : Nat} (h : 0 < n / 16 ^ l) (hn : n ≤ 1114111) (hl : l ≤ cntD n) : l < cntD n := by
 rcases Nat.lt_or_ge l (cntD n) with a | a
 ·exact a
 ·exfalso
  obtain rfl : l = cntD n := by omega
  have : n / 16 ^ cntD n = 0 := by
   apply Nat.div_eq_of_lt
   unfold cntD
   split
   ·simpa using by assumption
   ·split
    ·simpa using by assumption
    ·simp; omega
  omega
theorem cnt_end {n l : Nat} (h : n / 16 ^ l = 0) (h4 : 4 ≤ l) (hl : l ≤ cntD n) : l = cntD n := by
 have hlt : n < 16 ^ l := by
  rcases Nat.lt_or_ge n (16 ^ l) with a | a
  ·exact a
  ·have := Nat.div_pos a (Nat.pow_pos (n := l) (show 0 < 16 by omega)); omega
 rcases Nat.lt_or_ge l (cntD n) with a | a
 ·exfalso
  unfold cntD at a
  split at a
  ·omega
  ·split at a
   ·obtain rfl : l = 4 := by omega
    simp at hlt; omega
   ·have e : l = 4 ∨ l = 5 := by omega
    rcases e with rfl | rfl <;> (simp at hlt; omega)
 ·omega
theorem digs_succ {n l : Nat} {c : UInt8} (hc : hexTab[n / 16 ^ l % 16]? = some c) : c :: digsD n l = digsD n (l + 1) := by
 unfold digsD
 rw [List.range_succ, List.map_append, List.reverse_append]
 have : hexDig n l = c := by unfold hexDig; rw [List.getD_eq_getElem?_getD, hc]; rfl
 simp [this]
end Go.FK
namespace Go.FK
def showSpanF (lo hi : Int) : List UInt8 × Int := if mayF lo hi = false then ([], 41) else if lo = hi then ((showF lo).1, 0) else ((showF lo).1 ++ [46, 46] ++ (showF hi).1, 0)
theorem showF_bad {r : Int} (h : r < 0 ∨ 1114111 < r) : showF r = ([], 40) := by unfold showF; rw [if_pos h]
theorem showF_ok {r : Int} (h1 : 0 ≤ r) (h2 : r ≤ 1114111) : showF r = (digsD r.toNat (cntD r.toNat), 0) := by unfold showF; rw [if_neg (by omega)]
theorem showF_len (r : Int) : (showF r).1.length ≤ 6 := by
 unfold showF
 split
 ·simp
 ·simp only; rw [digsD_len]; exact (cntD_le _).2
def dotsN (s : List UInt8) : Nat → Nat → Option Nat
  | 0, _ => none
  | f + 1, i => if i + 1 < s.length then (if s.getD i 0 = 46 ∧ s.getD (i + 1) 0 = 46 then some i else dotsN s f (i + 1)) else none
def dotsFrom (s : List UInt8) (i : Nat) : Option Nat := dotsN s (s.length - i) i
def spanF (s : List UInt8) : Int × Int × Int :=
  match dotsFrom s 0 with
  | none => if (hexF s).2 ≠ 0 then (0, 0, (hexF s).2) else ((hexF s).1, (hexF s).1, 0)
  | some a => if (hexF (s.take a)).2 ≠ 0 ∨ (hexF (s.drop (a + 2))).2 ≠ 0 then (0, 0, 40) else if (hexF (s.drop (a + 2))).1 < (hexF (s.take a)).1 then (0, 0, 41) else ((hexF (s.take a)).1, (hexF (s.drop (a + 2))).1, 0)
def atInv (s : List UInt8) (i : Nat) (at_ : Int) : Prop := (at_ = -1 ∧ dotsFrom s i = dotsFrom s 0) ∨ (0 ≤ at_ ∧ at_.toNat + 1 < s.length ∧ dotsFrom s 0 = some at_.toNat)
end Go.FK
namespace Go.FK
open Go Go.RowKit
end Go.FK
namespace Go.FK
open Go Go.RowKit
def lowB (l : List UInt8) : List Int := l.reverse.map fun c => (c.toNat : Int)
theorem lowB_back (l : List UInt8) : bytesI (List.reverse (lowB l)) = l := by
 unfold lowB bytesI
 rw [← List.map_reverse, List.reverse_reverse, List.map_map]
 have : ((fun n : Int => UInt8.ofNat n.toNat) ∘ fun c : UInt8 => (c.toNat : Int)) = id := by
  funext c; simp
 rw [this, List.map_id]
theorem show_stepR {r : Nat} {acc : List Int} {z : Int} {c : UInt8} (i2 : z = ((r / 16 ^ acc.length : Nat) : Int)) (i3 : acc = lowB (digsD r acc.length)) (hc : ([48, 49, 50, 51, 52, 53, 54, 55, 56, 57, 65, 66, 67, 68, 69, 70] : List UInt8)[z.toNat % 16]? = some c) :
  z / 16 = ((r / 16 ^ (acc ++ [((c.toNat : Nat) : Int)]).length : Nat) : Int) ∧ acc ++ [((c.toNat : Nat) : Int)] = lowB (digsD r (acc ++ [((c.toNat : Nat) : Int)]).length) := by
 have hl : (acc ++ [((c.toNat : Nat) : Int)]).length = acc.length + 1 := by simp
 rw [hl]
 refine ⟨?_, ?_⟩
 ·rw [Nat.pow_succ, ← Nat.div_div_eq_div_mul]
  generalize r / 16 ^ acc.length = q at *; omega
 ·have h : hexTab[r / 16 ^ acc.length % 16]? = some c := by
   have e : r / 16 ^ acc.length % 16 = z.toNat % 16 := by generalize r / 16 ^ acc.length = q at *; omega
   rw [e]; exact hc
  rw [← digs_succ h]
  unfold lowB
  rw [List.reverse_cons, List.map_append]
  congr 1
theorem show_factsR {r : Nat} {acc : List Int} {z : Int} (i1 : acc.length ≤ cntD r) (i2 : z = ((r / 16 ^ acc.length : Nat) : Int)) (hr : r ≤ 1114111) : 0 ≤ z ∧ z ≤ 1114111 ∧ (0 < z → acc.length < cntD r) := by
 have hd := Nat.div_le_self r (16 ^ acc.length)
 refine ⟨?_, ?_, fun h => cnt_lt ?_ hr i1⟩ <;> (generalize r / 16 ^ acc.length = q at *; omega)
theorem show_endR {r : Nat} {acc : List Int} {z : Int} (i1 : acc.length ≤ cntD r) (i2 : z = ((r / 16 ^ acc.length : Nat) : Int)) (i3 : acc = lowB (digsD r acc.length)) (hz : z ≤ 0) (h4 : 4 ≤ acc.length) : bytesI (List.reverse acc) = digsD r (cntD r) := by
 have hq : r / 16 ^ acc.length = 0 := by generalize r / 16 ^ acc.length = q at i2 ⊢; omega
 have he := cnt_end (n := r) (l := acc.length) hq h4 i1
 rw [i3, lowB_back, he]
end Go.FK
namespace Go.FK
open Go Go.RowKit
end Go.FK
end

/- === PWordM === -/
section
/- PWords: the plain functions of chapter 05 (words): no program in sight. -/
namespace Go.FK
open Go
def blankB (r : Int) : Bool := r == 9 || r == 11 || r == 12 || r == 32 || r == 133 || r == 160 || r == 5760 || r == 8232 || r == 8233 || r == 8239 || r == 8287 || r == 12288 || (decide (8192 ≤ r) && decide (r ≤ 8202))
def runesN (s : List UInt8) : Nat → Nat → List Int
  | 0, _ => []
  | n + 1, pos => if pos < s.length then ((dec s pos).1 : Int) :: runesN s n (pos + (dec s pos).2) else []
theorem runesN_end {s : List UInt8} : ∀ {n pos : Nat}, s.length ≤ pos → runesN s n pos = []
 | 0, _, _ => rfl
 | n + 1, pos, h => by rw [runesN, if_neg (by omega)]
theorem runesN_fuel {s : List UInt8} : ∀ (n m pos : Nat), s.length - pos ≤ n → s.length - pos ≤ m → runesN s n pos = runesN s m pos := by
 intro n
 induction n with
 | zero => intro m pos h _; rw [runesN_end (by omega), runesN_end (by omega)]
 | succ n ih =>
  intro m pos hn hm
  by_cases h : pos < s.length
  ·cases m with
   | zero => omega
   | succ m =>
    have := dec_pos s pos
    rw [runesN, runesN, if_pos h, if_pos h, ih m _ (by omega) (by omega)]
  ·rw [runesN_end (by omega), runesN_end (by omega)]
def runesFrom (s : List UInt8) (pos : Nat) : List Int := runesN s (s.length - pos) pos
theorem xU {s : List UInt8} {pos : Nat} (h : pos < s.length) : runesFrom s pos = ((dec s pos).1 : Int) :: runesFrom s (pos + (dec s pos).2) := by
 have := dec_pos s pos
 unfold runesFrom
 rw [runesN_fuel (s.length - pos) (s.length - pos + 1) pos (by omega) (by omega), runesN, if_pos h]
 rw [runesN_fuel (s.length - pos) (s.length - (pos + (dec s pos).2)) _ (by omega) (by omega)]
theorem runesFrom_end {s : List UInt8} {pos : Nat} (h : s.length ≤ pos) : runesFrom s pos = [] := runesN_end h
def wordsN (s : List UInt8) : Nat → Nat → Int → List (Int × List UInt8)
  | 0, _, fr => if 0 ≤ fr then [(fr, s.drop fr.toNat)] else []
  | n + 1, pos, fr =>
    if pos < s.length then
      if blankB (dec s pos).1 = true then
        if 0 ≤ fr then (fr, (s.take pos).drop fr.toNat) :: wordsN s n (pos + (dec s pos).2) (-1) else wordsN s n (pos + (dec s pos).2) fr
      else if fr < 0 then wordsN s n (pos + (dec s pos).2) pos else wordsN s n (pos + (dec s pos).2) fr
    else if 0 ≤ fr then [(fr, s.drop fr.toNat)] else []
def wordsFrom (s : List UInt8) (pos : Nat) (fr : Int) : List (Int × List UInt8) := wordsN s (s.length - pos) pos fr
def wordsOf (s : List UInt8) : List (Int × List UInt8) := wordsFrom s 0 (-1)
def longN (b : Int) : Nat := if b < 128 then 1 else if b < 192 ∨ 247 < b then 0 else if b < 224 then 2 else if b < 240 then 3 else 4
def scalarB (r : Int) : Bool := decide (0 ≤ r) && decide (r ≤ 1114111) && (decide (r < 55296) || decide (57343 < r))
def widthN (r : Int) : Nat := if scalarB r = true then if r < 128 then 1 else if r < 2048 then 2 else if r < 65536 then 3 else 4 else 0
def bitsT : List Nat := [0, 127, 31, 15, 7]
def leastT : List Nat := [0, 0, 128, 2048, 65536]
def atN (s : List UInt8) (p : Nat) : Nat → Nat → Nat → Nat × Nat
  | 0, _, x => (0, x)
  | f + 1, i, x => match s[p + i]? with
    | none => (11, 0)
    | some b => if b.toNat < 128 ∨ 191 < b.toNat then (12, 0) else atN s p f (i + 1) (x * 64 + b.toNat - 128)
def finF (n : Nat) (r : Nat × Nat) : Nat × Int × Int :=
  if r.1 ≠ 0 then (1, 65533, r.1) else if r.2 < leastT.getD n 0 then (1, 65533, 13) else if 55296 ≤ r.2 ∧ r.2 ≤ 57343 then (1, 65533, 14) else if 1114111 < r.2 then (1, 65533, 15) else (n, r.2, 0)
def atG (s : List UInt8) (p n i x : Nat) : Nat × Int × Int := finF n (atN s p (n - i) i x)
def atF (s : List UInt8) (p : Nat) : Nat × Int × Int :=
  let c := (s.getD p 0).toNat
  if longN c = 0 then (1, 65533, 10) else atG s p (longN c) 1 (c &&& bitsT.getD (longN c) 0)
def atH (s : List UInt8) (p i x : Nat) : Nat × Int × Int := atG s p (longN (((s.getD p 0).toNat : Nat) : Int)) i x
def encSpot (x : Nat × Nat × Int × Int) : List Value := [.int .i64 (x.1 : Int), .int .i64 (x.2.1 : Int), .int .i32 x.2.2.1, .int .i64 x.2.2.2]
def spotsN (s : List UInt8) : Nat → Nat → List (Nat × Nat × Int × Int)
  | 0, _ => []
  | f + 1, p => if p < s.length then (p, (atF s p).1, (atF s p).2.1, (atF s p).2.2) :: spotsN s f (p + (atF s p).1) else []
def spotsFrom (s : List UInt8) (p : Nat) : List (Nat × Nat × Int × Int) := spotsN s (s.length - p) p
def rrunes (s : List UInt8) : List Int := (spotsFrom s 0).map fun x => x.2.2.1
def dropW (r : Int) : Bool := blankB r || r == 95 || r == 45
def lowerI (r : Int) : Int := if 65 ≤ r ∧ r ≤ 90 then r + 32 else r
def looseL (l : List Int) : List Int := (l.filter (fun r => !dropW r)).map lowerI
theorem wU (r : Int) (l : List Int) : looseL (r :: l) = if dropW r then looseL l else lowerI r :: looseL l := by
 cases h : dropW r <;> simp [looseL, h]
def looseS (s : List UInt8) : List UInt8 := encL (looseL (runesFrom s 0))
def alikeB (a b : List UInt8) : Bool := decide (looseS a = looseS b)
def shortTab : List (List UInt8) := [[], [76], [82], [65, 76], [69, 78], [69, 83], [69, 84], [65, 78], [67, 83], [78, 83, 77], [66, 78], [66], [83], [87, 83], [79, 78], [76, 82, 69], [76, 82, 79], [82, 76, 69], [82, 76, 79], [80, 68, 70], [76, 82, 73], [82, 76, 73], [70, 83, 73], [80, 68, 73]]
def longTab : List (List UInt8) := [[], [76, 101, 102, 116, 95, 84, 111, 95, 82, 105, 103, 104, 116], [82, 105, 103, 104, 116, 95, 84, 111, 95, 76, 101, 102, 116], [65, 114, 97, 98, 105, 99, 95, 76, 101, 116, 116, 101, 114], [69, 117, 114, 111, 112, 101, 97, 110, 95, 78, 117, 109, 98, 101, 114], [69, 117, 114, 111, 112, 101, 97, 110, 95, 83, 101, 112, 97, 114, 97, 116, 111, 114], [69, 117, 114, 111, 112, 101, 97, 110, 95, 84, 101, 114, 109, 105, 110, 97, 116, 111, 114], [65, 114, 97, 98, 105, 99, 95, 78, 117, 109, 98, 101, 114], [67, 111, 109, 109, 111, 110, 95, 83, 101, 112, 97, 114, 97, 116, 111, 114], [78, 111, 110, 115, 112, 97, 99, 105, 110, 103, 95, 77, 97, 114, 107], [66, 111, 117, 110, 100, 97, 114, 121, 95, 78, 101, 117, 116, 114, 97, 108], [80, 97, 114, 97, 103, 114, 97, 112, 104, 95, 83, 101, 112, 97, 114, 97, 116, 111, 114], [83, 101, 103, 109, 101, 110, 116, 95, 83, 101, 112, 97, 114, 97, 116, 111, 114], [87, 104, 105, 116, 101, 95, 83, 112, 97, 99, 101], [79, 116, 104, 101, 114, 95, 78, 101, 117, 116, 114, 97, 108], [76, 101, 102, 116, 95, 84, 111, 95, 82, 105, 103, 104, 116, 95, 69, 109, 98, 101, 100, 100, 105, 110, 103], [76, 101, 102, 116, 95, 84, 111, 95, 82, 105, 103, 104, 116, 95, 79, 118, 101, 114, 114, 105, 100, 101], [82, 105, 103, 104, 116, 95, 84, 111, 95, 76, 101, 102, 116, 95, 69, 109, 98, 101, 100, 100, 105, 110, 103], [82, 105, 103, 104, 116, 95, 84, 111, 95, 76, 101, 102, 116, 95, 79, 118, 101, 114, 114, 105, 100, 101], [80, 111, 112, 95, 68, 105, 114, 101, 99, 116, 105, 111, 110, 97, 108, 95, 70, 111, 114, 109, 97, 116], [76, 101, 102, 116, 95, 84, 111, 95, 82, 105, 103, 104, 116, 95, 73, 115, 111, 108, 97, 116, 101], [82, 105, 103, 104, 116, 95, 84, 111, 95, 76, 101, 102, 116, 95, 73, 115, 111, 108, 97, 116, 101], [70, 105, 114, 115, 116, 95, 83, 116, 114, 111, 110, 103, 95, 73, 115, 111, 108, 97, 116, 101], [80, 111, 112, 95, 68, 105, 114, 101, 99, 116, 105, 111, 110, 97, 108, 95, 73, 115, 111, 108, 97, 116, 101]]
def shortS (c : Int) : List UInt8 := if 1 ≤ c ∧ c ≤ 23 then shortTab.getD c.toNat [] else []
def longS (c : Int) : List UInt8 := if 1 ≤ c ∧ c ≤ 23 then longTab.getD c.toNat [] else []
def shortF (c : Int) : List UInt8 := if 15 ≤ c then shortS c else []
def longF (c : Int) : List UInt8 := if 15 ≤ c then longS c else []
def toldE (c : Int) : Int := if 1 ≤ c ∧ c ≤ 23 then 0 else 2
def classN (name : List UInt8) : Nat → Int → Int × Int
  | 0, _ => (0, 50)
  | n + 1, c => if c ≤ 23 then if alikeB name (shortS c) = true then (c, 0) else if alikeB name (longS c) = true then (c, 0) else classN name n (c + 1) else (0, 50)
def classFrom (name : List UInt8) (c : Int) : Int × Int := classN name (24 - c).toNat c
def classF (name : List UInt8) : Int × Int := classFrom name 1
def cstep (st : List Int × Int × Int) (x : Int × List UInt8) : List Int × Int × Int :=
  if st.2.2 ≠ 0 then st else if (classF x.2).2 ≠ 0 then ([], x.1, (classF x.2).2) else (st.1 ++ [(classF x.2).1], 0, 0)
def classesF (s : List UInt8) : List Int × Int × Int := (wordsOf s).foldl cstep ([], 0, 0)
def letterS (c : Int) : List UInt8 := if c = 0 then [110] else if c = 1 then [111] else if c = 2 then [99] else []
def letterE (c : Int) : Int := if c = 0 ∨ c = 1 ∨ c = 2 then 0 else 2
def sideTab : List (List UInt8) := [[78, 111, 110, 101], [79, 112, 101, 110], [67, 108, 111, 115, 101]]
def sideN (name : List UInt8) : List (List UInt8) → Int → Int × Int
  | [], _ => (0, 51)
  | x :: l, c => if alikeB name (letterS c) = true then (c, 0) else if alikeB name x = true then (c, 0) else sideN name l (c + 1)
def sideFrom (name : List UInt8) (k : Nat) : Int × Int := sideN name (sideTab.drop k) k
theorem wO {name x : List UInt8} {k : Nat} (h : sideTab[k]? = some x) : sideFrom name k = if alikeB name (letterS k) = true then ((k : Int), 0) else if alikeB name x = true then ((k : Int), 0) else sideFrom name (k + 1) := by
 unfold sideFrom
 rw [wW h, sideN]; rfl
theorem sideFrom_end {name : List UInt8} {k : Nat} (h : 3 ≤ k) : sideFrom name k = (0, 51) := by
 unfold sideFrom
 rw [List.drop_eq_nil_of_le (by simpa [sideTab] using h)]; rfl
theorem sideTab_len {k : Nat} {x : List UInt8} (h : sideTab[k]? = some x) : x.length ≤ 30 := by
 have : ∀ y ∈ sideTab, y.length ≤ 30 := by decide
 exact this x (List.mem_of_getElem? h)
theorem letterS_len (c : Int) : (letterS c).length ≤ 30 := by
 unfold letterS; repeat' split
 all_goals simp
def sideF (name : List UInt8) : Int × Int := sideFrom name 0
end Go.FK
end

/- === PBr3 === -/
section
/- PBr3: chapter 8: a book's rows by rising numbers; what a book writes; what a text is read as. My own text. -/
namespace Go.FK
def insI (x : Int) : List Int → List Int
  | [] => [x]
  | y :: l => if x ≤ y then x :: y :: l else y :: insI x l
def srtI : List Int → List Int
  | [] => []
  | x :: l => insI x (srtI l)
theorem insI_perm (x : Int) : ∀ l : List Int, (insI x l).Perm (x :: l)
 | [] => List.Perm.refl _
 | y :: l => by
  rw [insI]
  split
  ·exact List.Perm.refl _
  ·exact ((insI_perm x l).cons y).trans (List.Perm.swap ..)
theorem srtI_perm : ∀ l : List Int, (srtI l).Perm l
 | [] => List.Perm.refl _
 | x :: l => (insI_perm x _).trans ((srtI_perm l).cons x)
theorem insI_pw (x : Int) : ∀ l : List Int, l.Pairwise (· ≤ ·) → (insI x l).Pairwise (· ≤ ·)
 | [], _ => List.pairwise_singleton ..
 | y :: l, h => by
  have a := List.pairwise_cons.1 h
  rw [insI]
  split
  ·rename_i hxy
   refine List.pairwise_cons.2 ⟨fun z hz => ?_, h⟩
   rcases List.mem_cons.1 hz with rfl | hz
   ·exact hxy
   ·exact Int.le_trans hxy (a.1 z hz)
  ·rename_i hxy
   refine List.pairwise_cons.2 ⟨fun z hz => ?_, insI_pw x l a.2⟩
   rcases List.mem_cons.1 ((insI_perm x l).mem_iff.1 hz) with rfl | hz
   ·omega
   ·exact a.1 z hz
theorem srtI_pw : ∀ l : List Int, (srtI l).Pairwise (· ≤ ·)
 | [] => List.Pairwise.nil
 | x :: l => insI_pw x _ (srtI_pw l)
theorem pw_unique : ∀ {l1 l2 : List Int}, l1.Perm l2 → l1.Pairwise (· ≤ ·) → l2.Pairwise (· ≤ ·) → l1 = l2
 | [], l2, h, _, _ => h.nil_eq
 | x :: l1, [], h, _, _ => absurd h.length_eq (by simp)
 | x :: l1, y :: l2, h, h1, h2 => by
  have a := List.pairwise_cons.1 h1
  have b := List.pairwise_cons.1 h2
  have e : x = y := by
   rcases List.mem_cons.1 (h.mem_iff.1 (List.mem_cons_self ..)) with e | hx
   ·exact e
   ·rcases List.mem_cons.1 (h.mem_iff.2 (List.mem_cons_self ..)) with e | hy
    ·exact e.symm
    ·exact Int.le_antisymm (a.1 y hy) (b.1 x hx)
  subst e
  rw [pw_unique ((List.perm_cons x).1 h) a.2 b.2]
theorem Srt.pw {l : List Int} {n : Nat} (h : Srt l 0 n) (hn : n = l.length) : l.Pairwise (· ≤ ·) := by
 subst hn
 rw [List.pairwise_iff_getElem]
 intro i j hi hj hij
 have := h i j (Nat.zero_le _) hij hj
 rw [el_some (List.getElem?_eq_getElem hi), el_some (List.getElem?_eq_getElem hj)] at this
 exact this
def keysB (m : List (Int × Brk)) : List Int := srtI (m.map (·.1))
def rowsB (m : List (Int × Brk)) : List Brk := (keysB m).map (lookB m)
theorem keysB_len (m : List (Int × Brk)) : (keysB m).length = m.length := by rw [keysB, (srtI_perm _).length_eq, List.length_map]
theorem rowsB_len (m : List (Int × Brk)) : (rowsB m).length = m.length := by rw [rowsB, List.length_map, keysB_len]
theorem keys_sorted {xs ys : List Int} {m : List (Int × Brk)} {n : Nat} (hp : xs.Perm (m.map (·.1))) (hw : Sw 0 n xs ys) (hs : Srt ys 0 n) (hn : n = xs.length) : ys = keysB m :=
 pw_unique (hw.perm.trans (hp.trans (srtI_perm _).symm)) (hs.pw (by rw [hw.len]; exact hn)) (srtI_pw _)
theorem rows_take {m : List (Int × Brk)} {i : Nat} {r : Int} (h : (keysB m)[i]? = some r) : ((rowsB m).take i) ++ [lookB m r] = (rowsB m).take (i + 1) := by
 rw [List.take_add_one, rowsB, List.getElem?_map, h]; rfl
theorem rows_pre {m : List (Int × Brk)} {i : Nat} {r : Int} (h : (keysB m)[i]? = some r) : ((rowsB m).take i) ++ [lookB m r] <+: rowsB m := by
 rw [rows_take h]; exact List.take_prefix _ _
def lineB (x : Brk) : List UInt8 := (showF x.1).1 ++ [59, 32] ++ (showF x.2.1).1 ++ [59, 32] ++ letterS x.2.2 ++ [10]
def writeB (m : List (Int × Brk)) : List UInt8 := (rowsB m).flatMap lineB
theorem lineB_len (x : Brk) : (lineB x).length ≤ 47 := by
 have b := showF_len x.1
 have a := showF_len x.2.1
 have c := letterS_len x.2.2
 unfold lineB
 simp only [List.length_append, List.length_cons, List.length_nil]
 omega
theorem flatB_len : ∀ l : List Brk, (l.flatMap lineB).length ≤ 47 * l.length
 | [] => Nat.le_refl _
 | x :: l => by
  have b := lineB_len x
  have a := flatB_len l
  rw [List.flatMap_cons, List.length_append, List.length_cons]
  omega
theorem writeB_len (m : List (Int × Brk)) : (writeB m).length ≤ 47 * m.length := by
 have := flatB_len (rowsB m)
 rwa [rowsB_len] at this
theorem wrB_len {acc : List UInt8} {pre : List Brk} {x : Brk} {m : List (Int × Brk)} (h : acc = pre.flatMap lineB) (hp : pre ++ [x] <+: rowsB m) : acc.length + 47 ≤ 47 * m.length := by
 have a := hp.length_le
 rw [List.length_append, List.length_singleton, rowsB_len] at a
 have b := flatB_len pre
 rw [h]; omega
theorem wrB_step {acc : List UInt8} {pre : List Brk} {x : Brk} (h : acc = pre.flatMap lineB) : acc ++ ((showF x.1).1 ++ [59, 32] ++ (showF x.2.1).1 ++ [59, 32] ++ letterS x.2.2 ++ [10]) = (pre ++ [x]).flatMap lineB := by
 rw [List.flatMap_append, ← h, List.flatMap_singleton]; rfl
end Go.FK
end

/- === PScn === -/
section
/- PScn: the fields of a line are no longer than the line. My own text. -/
namespace Go.FK
open Go Go.RowKit
theorem splF_el (b : UInt8) : ∀ (s : List UInt8), ∀ x ∈ splF b s, x.length ≤ s.length
 | [], x, h => by rw [splF] at h; rw [List.mem_singleton.1 h]; exact Nat.le_refl _
 | c :: l, x, h => by
  rw [splF] at h
  rw [List.length_cons]
  split at h
  ·rcases List.mem_cons.1 h with rfl | h
   ·exact Nat.zero_le _
   ·have := splF_el b l x h; omega
  ·obtain ⟨p, r, e⟩ := splF_ne b l
   have ih := splF_el b l
   rw [e] at h ih
   rcases List.mem_cons.1 h with rfl | h
   ·have := ih p List.mem_cons_self
    rw [List.length_cons]; omega
   ·have := ih x (List.mem_cons_of_mem _ h); omega
theorem fields_el {s x : List UInt8} (h : x ∈ fieldsF s) : x.length ≤ s.length := by
 unfold fieldsF at h
 split at h
 ·cases h
 ·obtain ⟨y, hy, rfl⟩ := List.mem_map.1 h
  exact Nat.le_trans (trm_len _) (splF_el 59 s y hy)
theorem cut_el {s x : List UInt8} (h : x ∈ (cutF s).1) : x.length ≤ s.length := Nat.le_trans (fields_el (show x ∈ fieldsF (Lib.cut s [35]).1 from h)) (wB s [35]).1
theorem ord_len (s : List UInt8) : (ordF s).2.1.length ≤ s.length := by
 have a := (wB ((headF s).drop 1) [58]).2
 have b := headF_len s
 rw [List.length_drop] at a
 unfold ordF; omega
theorem scan_parts {no : Int} {s : List UInt8} (n : Nat) (hs : s.length ≤ n) : (∀ x ∈ (scanF no s).1.2.2.2.1, x.length ≤ n) ∧ (scanF no s).1.2.2.2.2.length ≤ n := by
 have b : (noteF s).length ≤ n := Nat.le_trans (noteF_len s) hs
 have f : ((noteF s).drop 9).length ≤ n := by rw [List.length_drop]; omega
 have z : (∀ x ∈ zeroL.2.2.2.1, x.length ≤ n) ∧ zeroL.2.2.2.2.length ≤ n := ⟨fun x hx => (by cases hx), Nat.zero_le _⟩
 unfold scanF
 by_cases c : (chkF s).2 ≠ 0
 ·rw [if_pos c]; exact z
 ·rw [if_neg c]
  by_cases d : headF s = []
  ·rw [if_pos d]
   by_cases a : hpB (noteF s) missT = true
   ·rw [if_pos a]; exact ⟨fun x hx => Nat.le_trans (cut_el hx) f, Nat.le_trans (cutF_len _) f⟩
   ·rw [if_neg a]; exact ⟨fun x hx => (by cases hx), b⟩
  ·rw [if_neg d]
   by_cases a : hpB (headF s) [64] = true
   ·rw [if_pos a]
    by_cases e : (ordF s).2.2 = false ∨ nameF (ordF s).1 = false
    ·rw [if_pos e]; exact z
    ·rw [if_neg e]; exact ⟨fun x hx => Nat.le_trans (fields_el hx) (Nat.le_trans (ord_len s) hs), b⟩
   ·rw [if_neg a]; exact ⟨fun x hx => Nat.le_trans (cut_el hx) hs, b⟩
end Go.FK
end

/- === PBr4 === -/
section
/- PBr4: chapter 8: what a fault says (numbers below 100); what a text is read as. My own text. -/
namespace Go.FK
open Go Go.RowKit
def dg2 (n : Int) : List UInt8 := if n < 10 then [UInt8.ofNat (48 + n.toNat)] else [UInt8.ofNat (48 + n.toNat / 10), UInt8.ofNat (48 + n.toNat % 10)]
theorem dg2_len (n : Int) : (dg2 n).length ≤ 2 := by unfold dg2; split <;> simp
theorem itoa2 {P : Program} {f : FuncId} (h : ∀ (i : Nat) (hi : i < 100) (w : World), Calls P f #[.int .i64 i] w fun e w' => e = .returned (.string ⟨(Lib.decDigits i).toArray⟩) ∧ w' = w)
  (n : Int) (w : World) (h0 : 0 ≤ n ∧ n < 100) : Calls P f #[.int .i64 n] w (Ret fun v w' => v = S (dg2 n) ∧ Below w.heap.size w w') := by
 obtain ⟨k, rfl⟩ := Int.eq_ofNat_of_zero_le h0.1
 refine (h k (by omega) w).mono ?_
 rintro e w' ⟨rfl, rfl⟩
 refine ⟨_, rfl, ?_, Below.refl _ _⟩
 have e : Lib.decDigits k = dg2 (k : Int) := by
  unfold dg2
  by_cases hk : k < 10
  ·rw [Lib.decDigits_one hk, if_pos (by omega)]; rfl
  ·rw [Lib.decDigits_two hk (by omega), if_neg (by omega)]; rfl
 rw [e]; rfl
def errD (e : Int) : List UInt8 := ([101, 114, 114, 111, 114, 32] : List UInt8) ++ dg2 e
def fltD (f : List UInt8) (l e : Int) : List UInt8 :=
  if f = [] then ((([108, 105, 110, 101, 32] : List UInt8) ++ dg2 l) ++ ([58, 32] : List UInt8)) ++ errD e
  else (((f ++ ([58] : List UInt8)) ++ dg2 l) ++ ([58, 32] : List UInt8)) ++ errD e
theorem errD_len (e : Int) : (errD e).length ≤ 8 := by
 have := dg2_len e
 unfold errD; rw [List.length_append]; simp only [List.length_cons, List.length_nil]; omega
def encTw (x : Int × Int) : List Value := [.int .i32 x.1, .int .i32 x.2]
def readB (k : Int) (f : List (List UInt8)) : Brk × Bool × Int :=
  if k = 2 then ((0, 0, 0), false, 80)
  else if k = 1 then
    if f.length ≠ 3 then ((0, 0, 0), false, 80)
    else if (hexF (f.getD 0 [])).2 ≠ 0 then ((0, 0, 0), false, (hexF (f.getD 0 [])).2)
    else if (hexF (f.getD 1 [])).2 ≠ 0 then ((0, 0, 0), false, (hexF (f.getD 1 [])).2)
    else if (sideF (f.getD 2 [])).2 ≠ 0 then ((0, 0, 0), false, (sideF (f.getD 2 [])).2)
    else (((hexF (f.getD 0 [])).1, (hexF (f.getD 1 [])).1, (sideF (f.getD 2 [])).1), true, 0)
  else ((0, 0, 0), false, 0)
section
variable {k : Int} {f : List (List UInt8)} {a b c : List UInt8}
theorem gd_some {i : Nat} (h : f[i]? = some a) : f.getD i [] = a := by rw [List.getD_eq_getElem?_getD, h]; rfl
theorem rd_order (h : k = 2) : readB k f = ((0, 0, 0), false, 80) := if_pos h
theorem rd_few (h : k = 1) (hl : f.length ≠ 3) : readB k f = ((0, 0, 0), false, 80) := by unfold readB; rw [if_neg (by omega), if_pos h, if_pos hl]
theorem rd_none (h : k ≠ 2) (h1 : k ≠ 1) : readB k f = ((0, 0, 0), false, 0) := by unfold readB; rw [if_neg h, if_neg h1]
theorem rd_a (h : k = 1) (hl : f.length = 3) (ha : f[0]? = some a) (h1 : (hexF a).2 ≠ 0) : readB k f = ((0, 0, 0), false, (hexF a).2) := by
 unfold readB; rw [if_neg (by omega), if_pos h, if_neg (by omega), gd_some ha, if_pos h1]
theorem rd_b (h : k = 1) (hl : f.length = 3) (ha : f[0]? = some a) (h1 : (hexF a).2 = 0) (hb : f[1]? = some b) (h2 : (hexF b).2 ≠ 0) : readB k f = ((0, 0, 0), false, (hexF b).2) := by
 unfold readB; rw [if_neg (by omega), if_pos h, if_neg (by omega), gd_some ha, if_neg (by omega), gd_some hb, if_pos h2]
theorem rd_s (h : k = 1) (hl : f.length = 3) (ha : f[0]? = some a) (h1 : (hexF a).2 = 0) (hb : f[1]? = some b) (h2 : (hexF b).2 = 0) (hc : f[2]? = some c) (h3 : (sideF c).2 ≠ 0) : readB k f = ((0, 0, 0), false, (sideF c).2) := by
 unfold readB; rw [if_neg (by omega), if_pos h, if_neg (by omega), gd_some ha, if_neg (by omega), gd_some hb, if_neg (by omega), gd_some hc, if_pos h3]
theorem rd_ok (h : k = 1) (hl : f.length = 3) (ha : f[0]? = some a) (h1 : (hexF a).2 = 0) (hb : f[1]? = some b) (h2 : (hexF b).2 = 0) (hc : f[2]? = some c) (h3 : (sideF c).2 = 0) : readB k f = (((hexF a).1, (hexF b).1, (sideF c).1), true, 0) := by
 unfold readB; rw [if_neg (by omega), if_pos h, if_neg (by omega), gd_some ha, if_neg (by omega), gd_some hb, if_neg (by omega), gd_some hc, if_neg (by omega)]
end
abbrev lnB (x : Int × List UInt8) : Brk × Bool × Int := readB (scanF x.1 x.2).1.2.1 (scanF x.1 x.2).1.2.2.2.1
def parB : List (Int × List UInt8) → List Brk → List Int → (List Brk × List Int) × Int × Int
  | [], rows, ats => ((rows, ats), 0, 0)
  | x :: l, rows, ats =>
    if (scanF x.1 x.2).2 ≠ 0 then ((rows, ats), x.1, (scanF x.1 x.2).2)
    else if (lnB x).2.2 ≠ 0 then ((rows, ats), x.1, (lnB x).2.2)
    else if (lnB x).2.1 = false then parB l rows ats
    else if addE (kv rows) (lnB x).1 ≠ 0 then ((rows, ats), x.1, addE (kv rows) (lnB x).1)
    else parB l (rows ++ [(lnB x).1]) (ats ++ [x.1])
def parF (s : List UInt8) : (List Brk × List Int) × Int × Int :=
  if (parB (toldF s) [] []).2.2 ≠ 0 then parB (toldF s) [] []
  else match loneI (kv (parB (toldF s) [] []).1.1) (parB (toldF s) [] []).1.1 0 with
    | some i => ((parB (toldF s) [] []).1, (parB (toldF s) [] []).1.2.getD i 0, 82)
    | none => parB (toldF s) [] []
def ParI (pre : List (Int × List UInt8)) (rows : List Brk) (ats : List Int) : Prop := ∀ r, parB (pre ++ r) [] [] = parB r rows ats
section
variable {pre t : List (Int × List UInt8)} {rows : List Brk} {ats : List Int} {x : Int × List UInt8} {s : List UInt8}
theorem ParI.nil : ParI [] [] [] := fun r => rfl
theorem ParI.skip (h : ParI pre rows ats) (h1 : (scanF x.1 x.2).2 = 0) (h2 : (lnB x).2.2 = 0) (h3 : (lnB x).2.1 = false) : ParI (pre ++ [x]) rows ats := fun r => by
 rw [List.append_assoc, h]; show parB (x :: r) rows ats = _
 rw [parB, if_neg (by omega), if_neg (by omega), if_pos h3]
theorem ParI.add (h : ParI pre rows ats) (h1 : (scanF x.1 x.2).2 = 0) (h2 : (lnB x).2.2 = 0) (h3 : (lnB x).2.1 = true) (h4 : addE (kv rows) (lnB x).1 = 0) : ParI (pre ++ [x]) (rows ++ [(lnB x).1]) (ats ++ [x.1]) := fun r => by
 rw [List.append_assoc, h]; show parB (x :: r) rows ats = _
 rw [parB, if_neg (by omega), if_neg (by omega), if_neg (by rw [h3]; decide), if_neg (by omega)]
theorem par_at (h : ParI pre rows ats) (hp : pre ++ [x] <+: toldF s) : ∃ l, parB (toldF s) [] [] = parB (x :: l) rows ats := by
 obtain ⟨l, hl⟩ := hp
 exact ⟨l, by rw [← hl, List.append_assoc, h]; rfl⟩
theorem par_scan (h : ParI pre rows ats) (hp : pre ++ [x] <+: toldF s) (h1 : (scanF x.1 x.2).2 ≠ 0) : (parF s).2 = (x.1, (scanF x.1 x.2).2) := by
 obtain ⟨l, hl⟩ := par_at h hp
 have e : parB (toldF s) [] [] = ((rows, ats), x.1, (scanF x.1 x.2).2) := by rw [hl, parB, if_pos h1]
 unfold parF; rw [e, if_pos h1]
theorem par_read (h : ParI pre rows ats) (hp : pre ++ [x] <+: toldF s) (h1 : (scanF x.1 x.2).2 = 0) (h2 : (lnB x).2.2 ≠ 0) : (parF s).2 = (x.1, (lnB x).2.2) := by
 obtain ⟨l, hl⟩ := par_at h hp
 have e : parB (toldF s) [] [] = ((rows, ats), x.1, (lnB x).2.2) := by rw [hl, parB, if_neg (by omega), if_pos h2]
 unfold parF; rw [e, if_pos h2]
theorem par_add (h : ParI pre rows ats) (hp : pre ++ [x] <+: toldF s) (h1 : (scanF x.1 x.2).2 = 0) (h2 : (lnB x).2.2 = 0) (h3 : (lnB x).2.1 = true) (h4 : addE (kv rows) (lnB x).1 ≠ 0) : (parF s).2 = (x.1, addE (kv rows) (lnB x).1) := by
 obtain ⟨l, hl⟩ := par_at h hp
 have e : parB (toldF s) [] [] = ((rows, ats), x.1, addE (kv rows) (lnB x).1) := by rw [hl, parB, if_neg (by omega), if_neg (by omega), if_neg (by rw [h3]; decide), if_pos h4]
 unfold parF; rw [e, if_pos h4]
theorem par_all (h : ParI (toldF s) rows ats) : parB (toldF s) [] [] = ((rows, ats), 0, 0) := by
 have := h []; rw [List.append_nil] at this; rw [this, parB]
theorem par_lone (h : ParI (toldF s) rows ats) (hi : 0 ≤ idxL (kv rows) rows) : (parF s).2 = (ats.getD (idxL (kv rows) rows).toNat 0, 82) := by
 unfold parF; rw [par_all h, if_neg (by simp)]
 unfold idxL at hi ⊢
 cases hq : loneI (kv rows) rows 0 with
 | none => rw [hq] at hi; simp only at hi; omega
 | some j => simp
theorem par_ok (h : ParI (toldF s) rows ats) (hi : idxL (kv rows) rows < 0) : parF s = ((rows, ats), 0, 0) := by
 unfold parF; rw [par_all h, if_neg (by simp)]
 unfold idxL at hi
 cases hq : loneI (kv rows) rows 0 with
 | none => rfl
 | some j => rw [hq] at hi; simp only at hi; omega
theorem par_add2 {ml : List (Int × Brk)} (h : ParI pre rows ats) (hp : pre ++ [x] <+: toldF s) (hm : ml = kv rows) (h1 : (scanF x.1 x.2).2 = 0) (h2 : (lnB x).2.2 = 0) (h3 : (lnB x).2.1 = true) (h4 : addE ml (lnB x).1 ≠ 0) : (parF s).2 = (x.1, addE ml (lnB x).1) := by
 subst hm; exact par_add h hp h1 h2 h3 h4
theorem par_lone2 {ml : List (Int × Brk)} (h : ParI (toldF s) rows ats) (hm : ml = kv rows) (hi : 0 ≤ idxL ml rows) : (parF s).2 = (ats.getD (idxL ml rows).toNat 0, 82) := by subst hm; exact par_lone h hi
theorem par_ok2 {ml : List (Int × Brk)} (h : ParI (toldF s) rows ats) (hm : ml = kv rows) (hi : idxL ml rows < 0) : parF s = ((rows, ats), 0, 0) := by subst hm; exact par_ok h hi
theorem addM_kv {ml : List (Int × Brk)} {y : Brk} (hm : ml = kv rows) (h : addE ml y = 0) : addM ml y = kv (rows ++ [y]) := by
 rw [addM_y h, kv_snoc, hm]
theorem add_kv {ml : List (Int × Brk)} {y : Brk} (hm : ml = kv rows) (h : addE ml y = 0) : addE (kv rows) y = 0 := hm ▸ h
theorem ats_at {i : Int} {y : Int} (h0 : 0 ≤ i) (h : ats[i.toNat]? = some y) : ats.getD i.toNat 0 = y := by rw [List.getD_eq_getElem?_getD, h]; rfl
theorem par_lone3 {ml : List (Int × Brk)} {y : Int} (h : ParI (toldF s) rows ats) (hm : ml = kv rows) (hi : 0 ≤ idxL ml rows) (hy : ats[(idxL ml rows).toNat]? = some y) : (parF s).2 = (y, 82) := by
 rw [par_lone2 h hm hi, ats_at hi hy]
end
end Go.FK
end

/- === FKaq === -/
section
/- FKaq: short laws for the walks' texts: what can be read off is read off, closed facts are defaults. My own text. -/
namespace Go.FK
open Go Go.RowKit
theorem zk {p : Prop} (h : p := by kernel_rfl) : p := h
theorem zo {p : Prop} (h : p := by omega) : p := h
theorem za {p : Prop} (h : p := by assumption) : p := h
theorem zl {p : Prop} (h : p := by (simp only [List.length_append, List.length_take, List.length_drop, List.length_replicate, List.length_cons, List.length_nil] <;> omega)) : p := h
@[reducible] def pt (b o : Nat) : Value := .pointer (some ⟨b, o, none⟩)
@[reducible] def I8 (x : Int) : Value := .int .i8 x
@[reducible] def I3 (x : Int) : Value := .int .i32 x
@[reducible] def I6 (x : Int) : Value := .int .i64 x
@[reducible] def U8 (x : Int) : Value := .int .u8 x
@[reducible] def N6 (x : Nat) : Value := .int .i64 (x : Int)
@[reducible] def vB (b : Bool) : Value := .bool b
@[reducible] def vF (b : Nat) : Value := .float .f64 b
@[reducible] def vx (v : Value) : Value := v
@[reducible] def ob (l : List Value) (E : TypeId) : Obj := .cells l.toArray E (0, 0)
theorem _root_.Go.RowKit.Below.tr {w a b : World} (hb : Below w.heap.size w a) (h : Below a.heap.size a b) : Below w.heap.size w b := hb.trans (h.mono hb.size)
theorem _root_.Go.RowKit.Below.tg {w a b : World} {v : Value} {B E k m : Nat} {xs : List Value} (hb : Below B w a) (hs : B ≤ a.heap.size) (hg : a.grownBy b v.ownBlock) (h : a.ownsRow B E k v m xs) : Below B w b :=
 hb.grown hg hs (fun k hk => (World.ownsRow.lt h k hk).1)
theorem New.ge {w a b : World} {k : Nat} {o : Obj} (h : New a b k o) (hb : w.heap.size ≤ a.heap.size) : w.heap.size ≤ k := by rw [h.num]; exact hb
theorem NE_ge {a b k : Nat} (h : a < k) (g : k ≤ b) : NE a b := by show _ ≠ _; omega
theorem yE {w w' : World} {a b : Nat} {o : Obj} (h : a < w.heap.size) (hN : New w w' b o) : NE a b := by have := hN.num; show _ ≠ _; omega
section ops
variable {r : Option Nat} {P : Program} {n : Nat} {Q : Post} {s : Fm} {w : World} {ops : Array Oper} {rest : List Oper}
variable {d : Option Tmp} {ty : TypeId} {pos : String} {af : Array Edge}
variable {t yt : TypeId} {X Y : Operand}
theorem nEq (x y : Nat) (ht : x = y → L r P n ops Q rest (s.put d (.bool true)) w) (hf : x ≠ y → L r P n ops Q rest (s.put d (.bool false)) w) (hx : s.ev n X = .int .i64 x := by kernel_rfl) (hy : s.ev n Y = .int .i64 y := by kernel_rfl) : L r P n ops Q (⟨d, .binOp .eql t X Y yt, ty, pos, af, none⟩ :: rest) s w :=
 L_cmp .i64 x y (x = y) rfl (cmpN_eq x y) hx hy ht hf
theorem nNe (x y : Nat) (ht : x ≠ y → L r P n ops Q rest (s.put d (.bool true)) w) (hf : x = y → L r P n ops Q rest (s.put d (.bool false)) w) (hx : s.ev n X = .int .i64 x := by kernel_rfl) (hy : s.ev n Y = .int .i64 y := by kernel_rfl) : L r P n ops Q (⟨d, .binOp .neq t X Y yt, ty, pos, af, none⟩ :: rest) s w :=
 L_cmp .i64 x y (x ≠ y) rfl (cmpN_ne x y) hx hy ht (fun h => hf (by omega))
theorem nLt (x y : Nat) (ht : x < y → L r P n ops Q rest (s.put d (.bool true)) w) (hf : y ≤ x → L r P n ops Q rest (s.put d (.bool false)) w) (hx : s.ev n X = .int .i64 x := by kernel_rfl) (hy : s.ev n Y = .int .i64 y := by kernel_rfl) : L r P n ops Q (⟨d, .binOp .lss t X Y yt, ty, pos, af, none⟩ :: rest) s w :=
 L_cmp .i64 x y (x < y) rfl (cmpN_lt x y) hx hy ht (fun h => hf (by omega))
theorem nLe (x y : Nat) (ht : x ≤ y → L r P n ops Q rest (s.put d (.bool true)) w) (hf : y < x → L r P n ops Q rest (s.put d (.bool false)) w) (hx : s.ev n X = .int .i64 x := by kernel_rfl) (hy : s.ev n Y = .int .i64 y := by kernel_rfl) : L r P n ops Q (⟨d, .binOp .leq t X Y yt, ty, pos, af, none⟩ :: rest) s w :=
 L_cmp .i64 x y (x ≤ y) rfl (cmpN_le x y) hx hy ht (fun h => hf (by omega))
theorem nGt (x y : Nat) (ht : y < x → L r P n ops Q rest (s.put d (.bool true)) w) (hf : x ≤ y → L r P n ops Q rest (s.put d (.bool false)) w) (hx : s.ev n X = .int .i64 x := by kernel_rfl) (hy : s.ev n Y = .int .i64 y := by kernel_rfl) : L r P n ops Q (⟨d, .binOp .gtr t X Y yt, ty, pos, af, none⟩ :: rest) s w :=
 L_cmp .i64 x y (y < x) rfl (cmpN_gt x y) hx hy ht (fun h => hf (by omega))
theorem wC (k : IntKind) (x y : Int) (ht : x = y → L r P n ops Q rest (s.put d (.bool true)) w) (hf : x ≠ y → L r P n ops Q rest (s.put d (.bool false)) w) (hx : s.ev n X = .int k x := by kernel_rfl) (hy : s.ev n Y = .int k y := by kernel_rfl) : L r P n ops Q (⟨d, .binOp .eql t X Y yt, ty, pos, af, none⟩ :: rest) s w :=
 L_cmp k x y (x = y) rfl (cmp_eq x y) hx hy ht hf
theorem zNe (k : IntKind) (x y : Int) (ht : x ≠ y → L r P n ops Q rest (s.put d (.bool true)) w) (hf : x = y → L r P n ops Q rest (s.put d (.bool false)) w) (hx : s.ev n X = .int k x := by kernel_rfl) (hy : s.ev n Y = .int k y := by kernel_rfl) : L r P n ops Q (⟨d, .binOp .neq t X Y yt, ty, pos, af, none⟩ :: rest) s w :=
 L_cmp k x y (x ≠ y) rfl (xV x y) hx hy ht (fun h => hf (by omega))
theorem zLt (k : IntKind) (x y : Int) (ht : x < y → L r P n ops Q rest (s.put d (.bool true)) w) (hf : y ≤ x → L r P n ops Q rest (s.put d (.bool false)) w) (hx : s.ev n X = .int k x := by kernel_rfl) (hy : s.ev n Y = .int k y := by kernel_rfl) : L r P n ops Q (⟨d, .binOp .lss t X Y yt, ty, pos, af, none⟩ :: rest) s w :=
 L_cmp k x y (x < y) rfl (cmp_lt x y) hx hy ht (fun h => hf (by omega))
theorem zLe (k : IntKind) (x y : Int) (ht : x ≤ y → L r P n ops Q rest (s.put d (.bool true)) w) (hf : y < x → L r P n ops Q rest (s.put d (.bool false)) w) (hx : s.ev n X = .int k x := by kernel_rfl) (hy : s.ev n Y = .int k y := by kernel_rfl) : L r P n ops Q (⟨d, .binOp .leq t X Y yt, ty, pos, af, none⟩ :: rest) s w :=
 L_cmp k x y (x ≤ y) rfl (cmp_le x y) hx hy ht (fun h => hf (by omega))
theorem zGt (k : IntKind) (x y : Int) (ht : y < x → L r P n ops Q rest (s.put d (.bool true)) w) (hf : x ≤ y → L r P n ops Q rest (s.put d (.bool false)) w) (hx : s.ev n X = .int k x := by kernel_rfl) (hy : s.ev n Y = .int k y := by kernel_rfl) : L r P n ops Q (⟨d, .binOp .gtr t X Y yt, ty, pos, af, none⟩ :: rest) s w :=
 L_cmp k x y (y < x) rfl (cmp_gt x y) hx hy ht (fun h => hf (by omega))
theorem zGe (k : IntKind) (x y : Int) (ht : y ≤ x → L r P n ops Q rest (s.put d (.bool true)) w) (hf : x < y → L r P n ops Q rest (s.put d (.bool false)) w) (hx : s.ev n X = .int k x := by kernel_rfl) (hy : s.ev n Y = .int k y := by kernel_rfl) : L r P n ops Q (⟨d, .binOp .geq t X Y yt, ty, pos, af, none⟩ :: rest) s w :=
 L_cmp k x y (y ≤ x) rfl (cmp_ge x y) hx hy ht (fun h => hf (by omega))
theorem zw {op : Op} {g : Nat × Bool} (h : L r P n ops Q (⟨d, op, ty, pos, af, none⟩ :: rest) s w) (hg : Option.elim (yl ops n s g.1) false (fun b => b == g.2) = true := by kernel_rfl) : L r P n ops Q (⟨d, op, ty, pos, af, some g⟩ :: rest) s w := L_want hg h
theorem zs {op : Op} {g : Nat × Bool} (h : L r P n ops Q rest (s.put d undef) w) (hg : Option.elim (yl ops n s g.1) false (fun b => b == g.2) = false := by kernel_rfl) : L r P n ops Q (⟨d, op, ty, pos, af, some g⟩ :: rest) s w := L_skip hg h
theorem xE {c : Operand} (h : L r P n ops Q rest (s.put d (s.ev n X)) w) (hc : s.ev n c = .bool true := by kernel_rfl) : L r P n ops Q (⟨d, .pick c X Y, ty, pos, af, none⟩ :: rest) s w := L_pickT hc h
theorem xC {c : Operand} (h : L r P n ops Q rest (s.put d (s.ev n Y)) w) (hc : s.ev n c = .bool false := by kernel_rfl) : L r P n ops Q (⟨d, .pick c X Y, ty, pos, af, none⟩ :: rest) s w := L_pickF hc h
theorem zT {c : Operand} {x y : Code} (h : W r P n x Q s w) (hc : s.ev n c = .bool true := by kernel_rfl) : W r P n (.cond c x y) Q s w := W_true hc h
theorem zF {c : Operand} {x y : Code} (h : W r P n y Q s w) (hc : s.ev n c = .bool false := by kernel_rfl) : W r P n (.cond c x y) Q s w := W_false hc h
theorem zr {op : Op} (v : Value) (h : L r P n ops Q rest (s.put d v) w) (hrun : (execOp (s.ev n) ⟨d, op, ty, pos, af, none⟩).run P w = .ok (.value v) w := by kernel_rfl) (hd : notDefer op = true := by kernel_rfl) : L r P n ops Q (⟨d, op, ty, pos, af, none⟩ :: rest) s w := L_run v hrun hd h
theorem wX (b : Bool) (h : L r P n ops Q rest (s.put d (.bool (!b))) w) (hx : s.ev n X = .bool b := by kernel_rfl) : L r P n ops Q (⟨d, .unOp .not t X, ty, pos, af, none⟩ :: rest) s w := L_not b hx h
theorem zad (a b : Nat) (h : L r P n ops Q rest (s.put d (.int .i64 ((a + b : Nat) : Int))) w) (hb : a + b ≤ 9223372036854775807 := by omega) (hx : s.ev n X = .int .i64 a := by kernel_rfl) (hy : s.ev n Y = .int .i64 b := by kernel_rfl) : L r P n ops Q (⟨d, .binOp .add t X Y yt, ty, pos, af, none⟩ :: rest) s w := L_addN a b hb hx hy h
theorem zsb (a b : Nat) (h : L r P n ops Q rest (s.put d (.int .i64 ((a - b : Nat) : Int))) w) (hb : b ≤ a := by omega) (ha : a ≤ 9223372036854775807 := by omega) (hx : s.ev n X = .int .i64 a := by kernel_rfl) (hy : s.ev n Y = .int .i64 b := by kernel_rfl) : L r P n ops Q (⟨d, .binOp .sub t X Y yt, ty, pos, af, none⟩ :: rest) s w := L_subN a b hb ha hx hy h
theorem zsl {ats : Array TypeId} (t : TypeId) (a : List UInt8) (h : L r P n ops Q rest (s.put d (.int .i64 (a.length : Nat))) w) (hat : ats[0]? = some t := by rfl) (hu : P.underlying t = some .string := by kernel_rfl) (hx : s.ev n X = S a := by kernel_rfl) : L r P n ops Q (⟨d, .call ⟨.builtin .len, #[X], ats⟩, ty, pos, af, none⟩ :: rest) s w := L_slen t a hat hu hx h
theorem zln {ats : Array TypeId} {E m : Nat} {v : Value} (hu : P.underlying t = some (.slice E)) (hv : ∃ a c, v = .slice a m c) (h : L r P n ops Q rest (s.put d (.int .i64 (m : Nat))) w) (hat : ats[0]? = some t := by rfl) (hx : s.ev n X = v := by kernel_rfl) : L r P n ops Q (⟨d, .call ⟨.builtin .len, #[X], ats⟩, ty, pos, af, none⟩ :: rest) s w := L_len t E m v hat hu hv hx h
theorem zc {op : Op} {f : FuncId} {args : List Value} {R : Value → World → Prop} (hc : Calls P f args.toArray w (Ret R)) (h : ∀ v w', R v w' → L r P n ops Q rest (s.put d v) w') (hrun : (execOp (s.ev n) ⟨d, op, ty, pos, af, none⟩).run P w = .ok (.enter f args.toArray) w := by kernel_rfl) (hd : notDefer op = true := by kernel_rfl) : L r P n ops Q (⟨d, op, ty, pos, af, none⟩ :: rest) s w := L_call f args hrun hd hc h
theorem zN {op : Op} (l : List Value) (E : TypeId) (h : ∀ b w', New w w' b (.cells l.toArray E (0, 0)) → L r P n ops Q rest (s.put d (.pointer (some ⟨b, 0, none⟩))) w') (hrun : (execOp (s.ev n) ⟨d, op, ty, pos, af, none⟩).run P w = .ok (.value (.pointer (some ⟨w.heap.size, 0, none⟩))) (w.alloc (.cells l.toArray E (0, 0))) := by kernel_rfl) (hd : notDefer op = true := by kernel_rfl) : L r P n ops Q (⟨d, op, ty, pos, af, none⟩ :: rest) s w :=
 L_new (fun b => .pointer (some ⟨b, 0, none⟩)) _ hrun hd h
theorem zM {op : Op} (m : Nat) (l : List Value) (E : TypeId) (h : ∀ b w', New w w' b (.cells l.toArray E (0, 0)) → L r P n ops Q rest (s.put d (.slice (some ⟨b, 0, none⟩) m m)) w') (hrun : (execOp (s.ev n) ⟨d, op, ty, pos, af, none⟩).run P w = .ok (.value (.slice (some ⟨w.heap.size, 0, none⟩) m m)) (w.alloc (.cells l.toArray E (0, 0))) := by kernel_rfl) (hd : notDefer op = true := by kernel_rfl) : L r P n ops Q (⟨d, op, ty, pos, af, none⟩ :: rest) s w :=
 L_new (fun b => .slice (some ⟨b, 0, none⟩) m m) _ hrun hd h
theorem zO {b : Nat} {cs : List Value} {E : TypeId} {fz : Nat × Nat} {v : Value} (o : Nat) (hb : w.heap[b]? = some (.cells cs.toArray E fz)) (hv : cs[o]? = some v) (h : L r P n ops Q rest (s.put d v) w) (hx : s.ev n X = .pointer (some ⟨b, o, none⟩) := by kernel_rfl) (ha : (isAgg t).run P w = .ok false w := by kernel_rfl) : L r P n ops Q (⟨d, .load t X, ty, pos, af, none⟩ :: rest) s w :=
 L_load b o v hx ha (zR hb (by simpa using hv)) h
theorem zOW {b : Nat} {cs : List Value} {E : TypeId} {fz : Nat × Nat} (hb : w.heap[b]? = some (.cells cs.toArray E fz)) (h : L r P n ops Q rest (s.put d (.agg cs.toArray)) w) (hx : s.ev n X = .pointer (some ⟨b, 0, none⟩) := by kernel_rfl) (ha : (isAgg t).run P w = .ok true w := by kernel_rfl) (hz : (sizeOf t).run P w = .ok cs.length w := by kernel_rfl) : L r P n ops Q (⟨d, .load t X, ty, pos, af, none⟩ :: rest) s w :=
 L_loadA b 0 cs hx ha hz (yS hb) h
theorem zFO {b : Nat} {cs : List Value} {E : TypeId} {fz : Nat × Nat} {v : Value} {op : Op} {d1 : Tmp} {d2 : Option Tmp} {ty2 : TypeId} {pos2 : String} {af2 : Array Edge} (o : Nat) (hb : w.heap[b]? = some (.cells cs.toArray E fz)) (hv : cs[o]? = some v)
  (h : L r P n ops Q rest ((s.put (some d1) (.pointer (some ⟨b, o, none⟩))).put d2 v) w)
  (hrun : (execOp (s.ev n) ⟨some d1, op, ty, pos, af, none⟩).run P w = .ok (.value (.pointer (some ⟨b, o, none⟩))) w := by kernel_rfl) (hd : notDefer op = true := by kernel_rfl)
  (hlt : Nat.blt d1 n = true := by kernel_rfl) (ha : (isAgg t).run P w = .ok false w := by kernel_rfl) : L r P n ops Q (⟨some d1, op, ty, pos, af, none⟩ :: ⟨d2, .load t (.tmp d1), ty2, pos2, af2, none⟩ :: rest) s w :=
 L_run _ hrun hd (L_load b o v (by simp [Fm.ev, Fm.put, hlt]) ha (zR hb (by simpa using hv)) h)
theorem z1 {b : Nat} {cs : List Value} {E : TypeId} (o : Nat) (v : Value) (cs' : List Value) (hb : w.heap[b]? = some (.cells cs.toArray E (0, 0)))
  (h : ∀ w', Wrote w w' b (.cells cs'.toArray E (0, 0)) → L r P n ops Q rest (s.put d undef) w') (h1 : v.oneCell' = true := by rfl) (hx : s.ev n X = .pointer (some ⟨b, o, none⟩) := by kernel_rfl) (hy : s.ev n Y = v := by kernel_rfl) (hz : (sizeOf t).run P w = .ok 1 w := by kernel_rfl) (ho : Nat.blt o cs.length = true := by rfl) (hcs : cs.set o v = cs' := by rfl) : L r P n ops Q (⟨d, .store t X Y, ty, pos, af, none⟩ :: rest) s w :=
 wJ b o v cs cs' E hx hy h1 hz hb (by rw [blt_iff] at ho; simpa using ho) hcs h
theorem wN {b : Nat} {cs : List Value} {E : TypeId} (vs : List Value) (hb : w.heap[b]? = some (.cells cs.toArray E (0, 0)))
  (h : ∀ w', Wrote w w' b (.cells vs.toArray E (0, 0)) → L r P n ops Q rest (s.put d undef) w') (h1 : vs.all (·.oneCell') = true := by rfl) (hx : s.ev n X = .pointer (some ⟨b, 0, none⟩) := by kernel_rfl) (hy : s.ev n Y = .agg vs.toArray := by kernel_rfl) (hz : (sizeOf t).run P w = .ok vs.length w := by kernel_rfl) (ho : Nat.beq vs.length cs.length = true := by kernel_rfl) : L r P n ops Q (⟨d, .store t X Y, ty, pos, af, none⟩ :: rest) s w :=
 wH b 0 vs cs vs E hx hy h1 hz hb (by have := Nat.eq_of_beq_eq_true ho; simp [this]) (by have := Nat.eq_of_beq_eq_true ho; simp [this]) h
theorem zE1 {α : Type} {enc : α → List Value} {v : Value} {xs : List α} {x : α} {u : Value} {I : Operand} {T E by_ : Nat} {d1 : Tmp} {d3 : Option Tmp} {ty3 : TypeId} {pos3 : String} {af3 : Array Edge}
  (hr : Rd w enc v xs) (he : Elem P T E 1 by_) (i : Nat) (hi : xs[i]? = some x) (hu : (enc x)[0]? = some u)
  (h : ∀ p : Value, L r P n ops Q rest ((s.put (some d1) p).put d3 u) w)
  (hk : ∀ x, (enc x).length = 1 := by exact fun _ => rfl) (hx : s.ev n X = v := by kernel_rfl) (hii : s.ev n I = .int .i64 i := by kernel_rfl)
  (hlt : Nat.blt d1 n = true := by kernel_rfl) (ha : (isAgg t).run P w = .ok false w := by kernel_rfl) :
  L r P n ops Q (⟨some d1, .indexAddr T X I, ty, pos, af, none⟩ :: ⟨d3, .load t (.tmp d1), ty3, pos3, af3, none⟩ :: rest) s w := by
 obtain ⟨g, off, hl, hc⟩ := hr.at hk hi
 refine L_ixaddr (k := .i64) v i _ g off he hl (List.getElem?_eq_some_iff.1 hi).1 hx hii ?_
 exact L_load g (off + i * 1) u (by simp [Fm.ev, Fm.put, hlt]) ha (hc 0 u hu) (h _)
theorem zEA {α : Type} {enc : α → List Value} {v : Value} {xs : List α} {x : α} {I : Operand} {T E ke by_ : Nat} {d1 : Tmp} {d3 : Option Tmp} {ty3 : TypeId} {pos3 : String} {af3 : Array Edge}
  (hr : Rd w enc v xs) (he : Elem P T E ke by_) (i : Nat) (hi : xs[i]? = some x) (us : List Value) (hu : enc x = us)
  (h : ∀ p : Value, L r P n ops Q rest ((s.put (some d1) p).put d3 (.agg us.toArray)) w)
  (hk : ∀ x, (enc x).length = ke := by exact fun _ => rfl) (hx : s.ev n X = v := by kernel_rfl) (hii : s.ev n I = .int .i64 i := by kernel_rfl)
  (hlt : Nat.blt d1 n = true := by kernel_rfl) (ha : (isAgg t).run P w = .ok true w := by kernel_rfl) (hz : (sizeOf t).run P w = .ok us.length w := by kernel_rfl) :
  L r P n ops Q (⟨some d1, .indexAddr T X I, ty, pos, af, none⟩ :: ⟨d3, .load t (.tmp d1), ty3, pos3, af3, none⟩ :: rest) s w := by
 subst hu
 obtain ⟨g, off, hl, hc⟩ := hr.at hk hi
 refine L_ixaddr (k := .i64) v i _ g off he hl (List.getElem?_eq_some_iff.1 hi).1 hx hii ?_
 exact L_loadA g (off + i * ke) (enc x) (by simp [Fm.ev, Fm.put, hlt]) ha hz hc (h _)
end ops
def rvs (n : Nat) (s : Fm) (fn : Func) : List Value := fn.results.toList.map fun | .tmp t => s.ev n (.tmp t) | _ => undef
def rOk (fn : Func) : Bool := fn.results.toList.all fun | .tmp _ => true | _ => false
section
variable {P : Program} {n : Nat} {s : Fm} {w : World}
theorem res_vs : ∀ (l : List ResultVar), (l.all fun | .tmp _ => true | _ => false) = true → resOk P n s w l (l.map fun | .tmp t => s.ev n (.tmp t) | _ => undef)
 | [], _ => trivial
 | .tmp t :: l, h => ⟨rfl, res_vs l (by simpa using h)⟩
 | .cell _ _ :: l, h => by simp at h
theorem yC {fn : Func} {R : Value → World → Prop} (vs : List Value) (h : R (match vs with | [v] => v | _ => .tuple vs.toArray) w) (hv : rvs n s fn = vs := by kernel_rfl) (hr : rOk fn = true := by kernel_rfl) (hd : s.ds = [] := by rfl) : endQ P fn n R .ret s w := by
 subst hv
 have hh : resOk P n s w fn.results.toList (rvs n s fn) := res_vs _ hr
 refine xA fn.results.toList (rvs n s fn) (by simp) hd hh ?_
 clear hr
 generalize rvs n s fn = vs at h hh ⊢
 cases vs with
 | nil => exact h
 | cons v l => cases l <;> exact h
theorem znrm {fn : Func} {R : Value → World → Prop} (vs : List Value) (h : R (match vs with | [v] => v | _ => .tuple vs.toArray) w) (hv : rvs n s fn = vs := by kernel_rfl) (hr : rOk fn = true := by kernel_rfl) (hd : s.ds = [] := by rfl) : endQ P fn n R .normal s w := by
 subst hv
 have hh : resOk P n s w fn.results.toList (rvs n s fn) := res_vs _ hr
 refine end_normal fn.results.toList (rvs n s fn) (by simp) hd hh ?_
 clear hr
 generalize rvs n s fn = vs at h hh ⊢
 cases vs with
 | nil => exact h
 | cons v l => cases l <;> exact h
end
def putS (s : Fm) : List Nat → List Value → Fm
  | d :: ds, v :: vs => putS (s.put (some d) v) ds vs
  | _, _ => s
theorem W_setL {r : Option Nat} {P : Program} {n : Nat} {c : Code} {Q : Post} {w : World} : ∀ (ts : List Nat) (vs : List Value) (s : Fm), ts.map s.f = vs → W r P n c Q (putS s ts vs) w → W r P n c Q s w
 | [], [], _, _, h => h
 | t :: ts, v :: vs, s, he, h => by
  simp only [List.map_cons, List.cons.injEq] at he
  refine W_set t v he.1 ?_
  refine W_setL ts vs _ ?_ h
  obtain ⟨b, a⟩ := he
  rw [← a]
  refine List.map_congr_left fun i _ => ?_
  show (bif Nat.beq i t then v else s.f i) = s.f i
  cases hq : Nat.beq i t with
  | false => rfl
  | true => rw [Nat.eq_of_beq_eq_true hq]; exact b.symm
 | [], _ :: _, _, he, _ => by simp at he
 | _ :: _, [], _, he, _ => by simp at he
theorem xK {r : Option Nat} {P : Program} {n : Nat} {c : Code} {Q : Post} {s : Fm} {w : World} {ts : List Nat} {vs : List Value} (h : ts.map s.f = vs) (k : W r P n c Q (putS s ts vs) w) : W r P n c Q s w := W_setL ts vs s h k
end Go.FK
end

/- === FKar === -/
section
/- FKar: more short laws for the walks' texts. My own text. -/
namespace Go.FK
open Go Go.RowKit
theorem zh {p : Prop} (h : p := by simp only [arithZ]; omega) : p := h
theorem zi {p : Prop} (h : p := by simp) : p := h
theorem zj {α : Sort _} {p : α → Prop} (h : ∀ x, p x := by exact fun _ => rfl) : ∀ x, p x := h
theorem zf {α : Sort _} {p : α → Prop} (h : ∀ x, p x := by intro _; kernel_rfl) : ∀ x, p x := h
theorem zg {α : Sort _} {β : α → Sort _} {p : (x : α) → β x → Prop} (h : ∀ x y, p x y := by intro _ _; kernel_rfl) : ∀ x y, p x y := h
theorem e6 {a b : Int} (h : a = b) : Value.int .i64 a = Value.int .i64 b := by rw [h]
theorem e3 {a b : Int} (h : a = b) : Value.int .i32 a = Value.int .i32 b := by rw [h]
theorem eu {a b : Int} (h : a = b) : Value.int .u8 a = Value.int .u8 b := by rw [h]
theorem e8 {a b : Int} (h : a = b) : Value.int .i8 a = Value.int .i8 b := by rw [h]
theorem eb {a b : Bool} (h : a = b) : Value.bool a = Value.bool b := by rw [h]
section
variable {r : Option Nat} {P : Program} {n : Nat} {Q Q2 : Post} {s : Fm} {w : World} {ops : Array Oper}
theorem wG (k : Nat) {f : FuncId} {fn : Func} {c : Code} {args : List Value} {R : Value → World → Prop} (hf : P.funcs[f]? = some fn) (hb : fn.body = some c) (h : W none P k c (endQ P fn k R) ⟨fun i => args.getD i undef, []⟩ w) (hn : fn.ntmps = k := by kernel_rfl) (hk : Nat.ble args.length k = true := by kernel_rfl) : Calls P f args.toArray w (Ret R) :=
 enter hf hb hn hk h
theorem nQ {K : Fm → World → Prop} (h : K s w) : L r P n ops (thenQ K Q) [] s w := zU (zB h)
theorem nW {x y : Code} (h : W r P n x (thenQ (W r P n y Q) Q) s w) : L r P n ops (thenQ (W r P n (.seq x y) Q) Q2) [] s w := zU (zB (yF h))
theorem wR {id : Nat} {l : List Oper} {y : Code} (h : L r P n l.toArray (thenQ (W r P n y Q) Q) l s w) : W r P n (.seq (.region id l.toArray false) y) Q s w := yF (zW h)
theorem nR {id : Nat} {l : List Oper} {y : Code} (h : L r P n l.toArray (thenQ (W r P n y Q) Q) l s w) : L r P n ops (thenQ (W r P n (.seq (.region id l.toArray false) y) Q) Q2) [] s w := zU (zB (yF (zW h)))
end
section
variable {P : Program} {n : Nat} {Q : Post} {s : Fm} {w : World} {ops : Array Oper} {S : World → Prop} {fuel : Nat} {listed : Array Bool}
theorem ht (i : Nat) {o : Oper} (hi : ops[i]? = some o) (v : Value) (hS : S w) (hrun : RunOk P n o s S v) (h : Lh P n ops Q S fuel (listed.setIfInBounds i true) (s.put o.dst v) w)
  (hs : Region.noSelect ops = true := by kernel_rfl) (hf : Region.free .any ops listed i = true := by kernel_rfl) (hr : (Region.ready .any ops listed).contains i = true := by kernel_rfl) (hw : wantB ops n s o.guard = true := by kernel_rfl)
  (hq : NoPanic Q := by with_reducible repeat first | exact zJ | exact yX | exact wD | apply zC | apply zI | apply noPanic_jmp) : Lh P n ops Q S (fuel + 1) listed s w :=
 H_take i v hi hs hf hr hq hS hw hrun h
theorem hp (i : Nat) {o : Oper} (hi : ops[i]? = some o) (v : Value) (hS : S w) (h : Lh P n ops Q S fuel (listed.setIfInBounds i true) (s.put o.dst v) w)
  (hs : Region.noSelect ops = true := by kernel_rfl) (hf : Region.free .any ops listed i = true := by kernel_rfl) (hr : (Region.ready .any ops listed).contains i = true := by kernel_rfl) (hw : wantB ops n s o.guard = true := by kernel_rfl)
  (hq : NoPanic Q := by with_reducible repeat first | exact zJ | exact yX | exact wD | apply zC | apply zI | apply noPanic_jmp) (hrun : RunOk P n o s S v := by intro _ _; kernel_rfl) : Lh P n ops Q S (fuel + 1) listed s w :=
 H_take i v hi hs hf hr hq hS hw hrun h
theorem ip (i : Nat) {o : Oper} (hi : ops[i]? = some o) (v : Value) (h : Li P n ops Q fuel (listed.setIfInBounds i true) (s.put o.dst v) w)
  (hs : Region.noSelect ops = true := by kernel_rfl) (hf : Region.free .any ops listed i = true := by kernel_rfl) (hr : (Region.ready .any ops listed).contains i = true := by kernel_rfl) (hc : noCall o.op = true := by kernel_rfl) (hw : wantB ops n s o.guard = true := by kernel_rfl)
  (hq : NoPanic Q := by with_reducible repeat first | exact zJ | exact yX | exact wD | apply zC | apply zI | apply noPanic_jmp) (hrun : ∀ w', (execOp (s.ev n) o).run P w' = .ok (.value v) w' := by intro _; kernel_rfl) : Li P n ops Q (fuel + 1) listed s w :=
 I_take i v hi hs hf hr hc hq hw hrun h
end
section
variable {P : Program} {n : Nat} {s : Fm} {w : World} {ops : Array Oper} {rest : List Oper} {K : Fm → Prop} {d : Option Tmp} {ty : TypeId} {pos : String} {af : Array Edge} {c X Y : Operand}
theorem qw {op : Op} {g : Nat × Bool} (h : Lq P n ops w K (⟨d, op, ty, pos, af, none⟩ :: rest) s) (hg : Option.elim (yl ops n s g.1) false (fun b => b == g.2) = true := by kernel_rfl) : Lq P n ops w K (⟨d, op, ty, pos, af, some g⟩ :: rest) s := Lq_want hg h
theorem qs {op : Op} {g : Nat × Bool} (h : Lq P n ops w K rest (s.put d undef)) (hg : Option.elim (yl ops n s g.1) false (fun b => b == g.2) = false := by kernel_rfl) : Lq P n ops w K (⟨d, op, ty, pos, af, some g⟩ :: rest) s := Lq_skip hg h
theorem qT (h : Lq P n ops w K rest (s.put d (s.ev n X))) (hc : s.ev n c = .bool true := by kernel_rfl) : Lq P n ops w K (⟨d, .pick c X Y, ty, pos, af, none⟩ :: rest) s := Lq_pickT hc h
theorem qF (h : Lq P n ops w K rest (s.put d (s.ev n Y))) (hc : s.ev n c = .bool false := by kernel_rfl) : Lq P n ops w K (⟨d, .pick c X Y, ty, pos, af, none⟩ :: rest) s := Lq_pickF hc h
theorem qr {op : Op} (v : Value) (h : Lq P n ops w K rest (s.put d v)) (hrun : ∀ w', (execOp (s.ev n) ⟨d, op, ty, pos, af, none⟩).run P w' = .ok (.value v) w' := by intro _; kernel_rfl) : Lq P n ops w K (⟨d, op, ty, pos, af, none⟩ :: rest) s := zZ v hrun h
end
end Go.FK
end

/- === Wllines === -/
section
/- Walks, written by my program walk.py out of the specification llines.py: each theorem says what one function returns and that it leaves memory as it was. -/
namespace Go.Proofs.YtddnhlobnembaaaGreatDoor
open Go Go.RowKit Go.FK _root_.Go.Proofs.Tryz
set_option maxHeartbeats 4000000
set_option maxRecDepth 100000
theorem el88 : Elem Tryz.prog 88 9 1 16 := ⟨underlying88, zk, rfl⟩
theorem el126 : Elem Tryz.prog 126 129 3 24 := ⟨underlying126, zk, rfl⟩
theorem xS (s : List UInt8) (c : Int) (w : World) :
  Calls Tryz.prog 99 #[(S s), (U8 c)] w (Ret fun v w' => v = (I6 (ibF s c)) ∧ Below w.heap.size w w') :=
 indexByte_contract Tryz.strings_IndexByte s c w
theorem xH (s : List UInt8) (p : List UInt8) (w : World) :
  Calls Tryz.prog 72 #[(S s), (S p)] w (Ret fun v w' => v = (.bool (hpB s p)) ∧ Below w.heap.size w w') :=
 hasPrefix_contract Tryz.strings_HasPrefix s p w
theorem c_stringslite_Index (s : List UInt8) (sep : List UInt8) (w : World) (h1 : sep.length = 1) :
  Calls Tryz.prog 116 #[(S s), (S sep)] w (Ret fun v w' => v = (I6 (Lib.index s sep)) ∧ Below w.heap.size w w') :=
 index1_contract Tryz.stringslite_Index_one s sep w h1
theorem c_stringslite_Cut (s : List UInt8) (sep : List UInt8) (w : World) (h1 : sep.length = 1) (hs : s.length ≤ 1073741824) :
  Calls Tryz.prog 101 #[(S s), (S sep)] w (Ret fun v w' => v = (.tuple #[(S ((Lib.cut s sep).1)), (S ((Lib.cut s sep).2.1)), (.bool ((Lib.cut s sep).2.2))]) ∧ Below w.heap.size w w') := by
 refine wG 23 func101 rfl ?_
 have a := Below.refl w.heap.size w
 refine wR (zH (zH (zH (nW (wR (zG (zG (zc (c_stringslite_Index s sep _ zo) ?_))))))))
 rintro _ d ⟨rfl, b⟩
 have := ixl_range s sep
 refine zH (nR (zG (zGe .i64 (Lib.index s sep) 0 ?_ ?_)))
 ·intro g
  refine nQ (zT (yF (yN zk zk (zY (zY (Lq_ssto s (((Lib.index s sep)).toNat) underlying9 zk (toNat_val (Lib.index s sep) .i64 zk zo) zo (zY (zY (zY (Lq_slen 9 sep rfl underlying9 zk (Lq_arith (Lib.index s sep) (((sep).length : Nat) : Int) ((Lib.index s sep) + (((sep).length : Nat) : Int)) rfl zk zk (xP _ zh zh) (Lq_ssfrom s ((((Lib.index s sep) + (((sep).length : Nat) : Int))).toNat) underlying9 zk (toNat_val ((Lib.index s sep) + (((sep).length : Nat) : Int)) .i64 zk zo) zo (yR (yR (yR (yJ ?_))))))))))))))))
  intro f c
  have a := (a.tr b).tr c
  exact zB (zS (zE (yC [(S (List.take (((Lib.index s sep)).toNat) s)), (S (List.drop ((((Lib.index s sep) + (((sep).length : Nat) : Int))).toNat) s)), (.bool true)] ⟨qA (congrArg S (by (rw [cut_some zo]; done))) (congrArg S (by (rw [cut_some zo]; done))) (eb (by (rw [cut_some zo]; done))), a⟩)))
 intro e
 have a := a.tr b
 exact nQ (zF (zQ (zB (wR (zG (zH (zH (zH (nQ (zS (yC [(S s), (S []), (.bool false)] ⟨qA (congrArg S (by (rw [cut_none zo]; done))) (congrArg S (by (rw [cut_none zo]; done))) (eb (by (rw [cut_none zo]; done))), a⟩)))))))))))
theorem c_strings_Cut (s : List UInt8) (sep : List UInt8) (w : World) (h1 : sep.length = 1) (hs : s.length ≤ 1073741824) :
  Calls Tryz.prog 70 #[(S s), (S sep)] w (Ret fun v w' => v = (.tuple #[(S ((Lib.cut s sep).1)), (S ((Lib.cut s sep).2.1)), (.bool ((Lib.cut s sep).2.2))]) ∧ Below w.heap.size w w') := by
 refine wG 13 func70 rfl ?_
 have a := Below.refl w.heap.size w
 refine wR (zH (zH (zH (nR (zG (zG (zc (c_stringslite_Cut s sep _ zo zo) ?_)))))))
 rintro _ c ⟨rfl, b⟩
 have := wB s sep
 have a := a.tr b
 exact zr (S ((Lib.cut s sep).1)) (zr (S ((Lib.cut s sep).2.1)) (zr (.bool ((Lib.cut s sep).2.2)) (zH (zH (zH (nQ (zS (yC [(S ((Lib.cut s sep).1)), (S ((Lib.cut s sep).2.1)), (.bool ((Lib.cut s sep).2.2))] ⟨rfl, a⟩))))))))
theorem c_strings_Trim (s : List UInt8) (c : List UInt8) (w : World) (ha : c.all (fun b => decide (b.toNat < 128)) = true) (hs : s.length ≤ 1073741824) (hc : c.length ≤ 1073741824) :
  Calls Tryz.prog 102 #[(S s), (S c)] w (Ret fun v w' => v = (S (Lib.trimS s c)) ∧ Below w.heap.size w w') :=
 trim_contract (fun s c w hs hcs ha => Go.Proofs.Any.strings_Trim_laid Tryz.lays160 zk s c w hs hcs ha) s c w ha hs hc
theorem wM (s : List UInt8) (w : World) (hs : s.length ≤ 1073741824) :
  Calls Tryz.prog 71 #[(S s)] w (Ret fun v w' => v = (S (trmF s)) ∧ Below w.heap.size w w') := by
 refine wG 5 func71 rfl ?_
 have a := Below.refl w.heap.size w
 refine wR (zH (nR (zG (zc (c_strings_Trim s ([32, 9] : List UInt8) _ (by decide) (by first | omega | decide) (by first | omega | decide)) ?_))))
 rintro _ c ⟨rfl, b⟩
 have a := a.tr b
 exact zH (nQ (zS (yC [(S (Lib.trimS s ([32, 9] : List UInt8)))] ⟨congrArg S (by rfl), a⟩)))
theorem c_lines_wrong (s : List UInt8) (p : Nat) (r : Int) (w : World) (hp : p ≤ s.length) :
  Calls Tryz.prog 100 #[(S s), (N6 p), (I3 r)] w (Ret fun v w' => v = (.bool (wrongB s p r)) ∧ Below w.heap.size w w') := by
 refine wG 18 func100 rfl ?_
 have a := Below.refl w.heap.size w
 refine wR (zH (nR (zG (wC .i32 r 65533 ?_ ?_))))
 ·intro f
  refine zG (zw (zG (zw (zG (zw (L_ssfrom s p underlying9 zk ⟨.i64, zk⟩ zo (zw (zG (zw (L_runeStr r zk underlying21 underlying9 (zw (zc (xH (List.drop p s) (encL [r]) _ ) ?_))))))))))))
  rintro _ e ⟨rfl, b⟩
  refine zX (hpB (List.drop p s) (encL [r])) ?_ ?_
  ·intro c
   replace a := a.tr b
   exact zw (wX true (xE (zH (nQ (zS (yC [(.bool false)] ⟨eb (by (unfold wrongB; simp_all; done)), a⟩))))))
  intro g
  replace a := a.tr b
  exact zw (wX false (xE (zH (nQ (zS (yC [(.bool true)] ⟨eb (by (unfold wrongB; simp_all; done)), a⟩))))))
 intro d
 exact zG (zs (zs (zs (zs (zs (zs (zs (xC (zH (nQ (zS (yC [(.bool false)] ⟨eb (by (simp [wrongB, *]; done)), a⟩))))))))))))
theorem c_lines_Check (s : List UInt8) (w : World) (hs : s.length ≤ 1073741824) :
  Calls Tryz.prog 68 #[(S s)] w (Ret fun v w' => v = (.tuple #[(N6 ((chkF s).1)), (I6 ((chkF s).2))]) ∧ Below w.heap.size w w') := by
 refine wG 35 func68 rfl ?_
 have g := Below.refl w.heap.size w
 refine wR (zH (zH (nR (zH (nW (wR (zG (L_range s underlying9 zk ?_))))))))
 intro r w2 o
 have e := o.ge g.size
 have c := o.here
 refine nQ (yI ?_)
 have g := g.tr o.below
 refine xN (fun m s0 w0 => ∃ (pos : Nat) (n : Nat), (m = s.length - pos) ∧ (s0.ds = []) ∧ ([0, 8, 4].map s0.f = [(S s), (pt r 0), (N6 n)]) ∧ (w0.heap[r]? = some (.stringIter ⟨(s).toArray⟩ pos)) ∧ (Below w.heap.size w w0) ∧ (pos ≤ s.length) ∧ (n ≤ pos) ∧ (n ≤ 4096) ∧ (chkL (charsFrom s pos) n = chkF s)) _ ⟨0, 0, rfl, zk, zk, c, g, by omega, by omega, by omega, rfl⟩ ?_
 rintro m4 s5 w6 ⟨pos, n, hm, j, t, c, g, i1, i2, i4, k⟩
 refine xK t (wR ?_)
 rcases Nat.lt_or_ge pos (s).length with a | l
 ·refine L_next s r pos zk c a ?_
  intro d w7 b i
  have c := i.here
  have := dec_pos s pos; have := dec_fits s pos a; have := dec_le s pos
  have p : 0 ≤ d := by omega
  have q : d ≤ 2147483647 := by omega
  refine zr (.bool true) (nW (zT (zQ (zB (yI (wR (zr (N6 pos) (zr (I3 d) (zH (zH (nW (yI (wR (zG (nEq n 4096 ?_ ?_)))))))))))))))
  ·intro h9
   have g := g.trans (i.below e)
   exact zH (nQ (zT (wR (zG (zH (zH (nQ (zS (zK (zE (zK (zE (zK (zE (yC [(N6 n), (I6 32)] (hd := j) ⟨xM (congrArg (fun x : Nat => Value.int .i64 (x : Int)) (by (rw [← k, (by assumption : n = 4096), chk_wide a]; done))) (e6 (by (rw [← k, (by assumption : n = 4096), chk_wide a]; done))), g⟩)))))))))))))))
  intro y
  refine zH (nQ (zF (wR (zG (zG (zG (zc (c_lines_wrong s pos d _ zo) ?_)))))))
  rintro _ ai ⟨rfl, h⟩
  refine zX (wrongB s pos d) ?_ ?_
  ·intro ah
   have g := (g.trans (i.below e)).tr h
   exact zH (nQ (zT (wR (zG (zH (zH (nQ (zS (zK (zE (zK (zE (zK (zE (yC [(N6 n), (I6 30)] (hd := j) ⟨xM (congrArg (fun x : Nat => Value.int .i64 (x : Int)) (by (rw [← k, chk_wrong (n := n) a zo (by rw [← b]; assumption)]; done))) (e6 (by (rw [← k, chk_wrong (n := n) a zo (by rw [← b]; assumption)]; done))), g⟩)))))))))))))))
  intro u
  refine zH (nQ (zF (yF (wR (zG (zLt .i32 d 32 ?_ ?_))))))
  ·intro af
   refine zG (zw (zG (zw (zNe .i32 d 9 ?_ ?_))))
   ·intro ae
    have g := (g.trans (i.below e)).tr h
    exact xE (zH (nQ (zT (zQ (zB (zT (wR (zG (zH (zH (nQ (zS (zK (zE (zK (zE (zK (zE (yC [(N6 n), (I6 31)] (hd := j) ⟨xM (congrArg (fun x : Nat => Value.int .i64 (x : Int)) (by (rw [← k, chk_ctl (n := n) a zo (by rw [← b]; assumption) zo]; done))) (e6 (by (rw [← k, chk_ctl (n := n) a zo (by rw [← b]; assumption) zo]; done))), g⟩)))))))))))))))))))
   intro ac
   refine xE (zH (nQ (zF (zW (zG (wC .i32 d 127 ?_ ?_))))))
   ·intro z
    have g := (g.trans (i.below e)).tr h
    exact zH (nQ (zT (wR (zG (zH (zH (nQ (zS (zK (zE (zK (zE (zK (zE (yC [(N6 n), (I6 31)] (hd := j) ⟨xM (congrArg (fun x : Nat => Value.int .i64 (x : Int)) (by (rw [← k, chk_ctl (n := n) a zo (by rw [← b]; assumption) zo]; done))) (e6 (by (rw [← k, chk_ctl (n := n) a zo (by rw [← b]; assumption) zo]; done))), g⟩)))))))))))))))
   intro ad
   refine zH (nQ (zF (zQ (zL (zB (zW (zG (zad n 1 (zH (zU (zL ?_)))))))))))
   have g := (g.trans (i.below e)).tr h
   have c := zA c h
   refine zB ⟨_, zo, (pos + (dec s pos).2), (n + 1), rfl, j, zk, c, g, zo, zo, zo, ?_⟩
   rw [← chk_on (n := n) a zo (by rw [← b]; assumption) zo]; exact k
  intro ab
  refine zG (zs (zs (xC (zH (nQ (zF (zW (zG (wC .i32 d 127 ?_ ?_)))))))))
  ·intro aa
   have g := (g.trans (i.below e)).tr h
   exact zH (nQ (zT (wR (zG (zH (zH (nQ (zS (zK (zE (zK (zE (zK (zE (yC [(N6 n), (I6 31)] (hd := j) ⟨xM (congrArg (fun x : Nat => Value.int .i64 (x : Int)) (by (rw [← k, chk_ctl (n := n) a zo (by rw [← b]; assumption) zo]; done))) (e6 (by (rw [← k, chk_ctl (n := n) a zo (by rw [← b]; assumption) zo]; done))), g⟩)))))))))))))))
  intro ag
  refine zH (nQ (zF (zQ (zL (zB (zW (zG (zad n 1 (zH (zU (zL ?_)))))))))))
  have g := (g.trans (i.below e)).tr h
  have c := zA c h
  refine zB ⟨_, zo, (pos + (dec s pos).2), (n + 1), rfl, j, zk, c, g, zo, zo, zo, ?_⟩
  rw [← chk_on (n := n) a zo (by rw [← b]; assumption) zo]; exact k
 exact L_nextEnd s r pos zk c l (zr (.bool false) (nW (zF (xG (yD (yD (yQ (zB (wR (zH (zH (nQ (zS (yC [(I6 0), (I6 0)] (hd := j) ⟨xM (congrArg (fun x : Nat => Value.int .i64 (x : Int)) (by (rw [← k, chk_end zo]; done))) (e6 (by (rw [← k, chk_end zo]; done))), g⟩))))))))))))))
theorem c_lines_fields (s : List UInt8) (w : World) (hs : s.length ≤ 1073741824) :
  Calls Tryz.prog 74 #[(S s)] w (Ret fun v w' => ∃ (q0 : Value), v = q0 ∧ Row w' w.heap.size 9 1 encStr q0 (fieldsF s) ∧ Below w.heap.size w w') := by
 refine wG 37 func74 rfl ?_
 have g := Below.refl w.heap.size w
 refine wR (zH (nQ (W_scope (fun l m s0 w0 => (l = 1 ∧ ∃ (b : List (List UInt8)) (h : Nat) (a : Nat) (e : Value), (m = 3 * (s.length - a) + 2) ∧ (s0.ds = []) ∧ ([0, 3, 4, 5].map s0.f = [(S s), e, (N6 h), (N6 a)]) ∧ (Row w0 w.heap.size 9 1 encStr e b) ∧ (Below w.heap.size w w0) ∧ (h ≤ a) ∧ (a ≤ s.length) ∧ (noB 59 s h a) ∧ (b ++ (splF 59 (s.drop h)).map trmF = (splF 59 s).map trmF) ∧ (trmF s ≠ []) ∧ (b.length ≤ a)) ∨ (l = 2 ∧ ∃ (b : List (List UInt8)) (h : Nat) (a : Nat) (e : Value), (m = 3 * (s.length - a) + 1) ∧ (s0.ds = []) ∧ ([0, 3, 4, 5].map s0.f = [(S s), e, (N6 h), (N6 a)]) ∧ (Row w0 w.heap.size 9 1 encStr e b) ∧ (Below w.heap.size w w0) ∧ (h ≤ a) ∧ (a ≤ s.length) ∧ (noB 59 s h a) ∧ (b ++ (splF 59 (s.drop h)).map trmF = (splF 59 s).map trmF) ∧ (trmF s ≠ []) ∧ (b.length ≤ a) ∧ (∃ c : UInt8, s[a]? = some c ∧ c.toNat = 59) ∧ (a < s.length)) ∨ (l = 0 ∧ ∃ (b : List (List UInt8)) (h : Nat) (a : Nat) (e : Value), (m = 0) ∧ (s0.ds = []) ∧ ([0, 3, 4, 5].map s0.f = [(S s), e, (N6 h), (N6 a)]) ∧ (Row w0 w.heap.size 9 1 encStr e b) ∧ (Below w.heap.size w w0) ∧ (h ≤ a) ∧ (a ≤ s.length) ∧ (noB 59 s h a) ∧ (b ++ (splF 59 (s.drop h)).map trmF = (splF 59 s).map trmF) ∧ (trmF s ≠ []) ∧ (b.length ≤ a) ∧ (a = s.length))) ?_ ?_)))
 ·refine wR (zH (nR (zH (zH (nW (wR (zG (zc (wM s _ zo) ?_))))))))
  rintro _ w1 ⟨rfl, p⟩
  have := trm_len s
  refine L_seq (trmF s) ([] : List UInt8) rfl zk zk ?_ ?_
  ·intro h4
   have g := g.tr p
   exact nQ (zT (wR (zH (nQ (zS (zE (jmpQ_ret (yC [(.slice none 0 0)] ⟨(.slice none 0 0), rfl, (Row.nil _ _ _ _ _).cast (by exact (fields_nil za).symm), g⟩))))))))
  intro h5
  refine nQ (zF (zQ (zB (yF (W_label (zB (yF (wR (zG (zG (zsl 9 s (nEq 0 ((s).length) ?_ ?_))))))))))))
  ·intro h6
   refine nQ (zT (W_goto (wS (jmpQ_goto ?_))))
   have g := g.tr p
   refine ⟨_, Or.inr (Or.inr (⟨rfl, [], 0, 0, (.slice none 0 0), rfl, rfl, zk, Row.nil _ _ _ _ _, g, zo, zo, ?_, ?_, ?_, ?_, zo⟩))⟩
   ·exact noB_zero _ _ _
   ·rfl
   ·first | assumption | exact o
   (simp only [List.length_append, List.length_cons, List.length_nil]; omega)
  intro h7
  refine nQ (zF (zQ (zB (yF (wR (zG (zG ?_)))))))
  have hz := yL s 0 zo; obtain ⟨t, am⟩ := hz
  have := t.toNat_lt
  refine L_sindex (k := .i64) s 0 t underlying9 am zk zk (L_cmp .u8 ((t.toNat : Nat) : Int) ((59 : Nat) : Int) (t.toNat = 59) rfl (cmpN_eq t.toNat 59) zk zk ?_ ?_)
  ·intro af
   replace af : t.toNat = 59 := by omega
   refine nQ (zT (W_goto (wS (jmpQ_goto ?_))))
   have g := g.tr p
   refine ⟨_, Or.inr (Or.inl (⟨rfl, [], 0, 0, (.slice none 0 0), rfl, rfl, zk, Row.nil _ _ _ _ _, g, zo, zo, ?_, ?_, ?_, ?_, ?_, zo⟩))⟩
   ·exact noB_zero _ _ _
   ·rfl
   ·first | assumption | exact o
   ·(simp only [List.length_append, List.length_cons, List.length_nil]; omega)
   exact ⟨_, by assumption, by assumption⟩
  intro aq
  replace aq : t.toNat ≠ 59 := by omega
  refine nQ (zF (zQ (zB (wR (zG (zad 0 1 (zH (nW (W_goto (wS (jmpQ_goto ?_)))))))))))
  have g := g.tr p
  refine ⟨_, Or.inl (⟨rfl, [], 0, 1, (.slice none 0 0), rfl, rfl, zk, Row.nil _ _ _ _ _, g, zo, zo, ?_, ?_, ?_, ?_⟩)⟩
  ·exact noB_succ (noB_zero _ _ _) za za
  ·rfl
  ·first | assumption | exact o
  (simp only [List.length_append, List.length_cons, List.length_nil]; omega)
 rintro l a0 az a3 (⟨rfl, b, h, a, e, hm, i, n, d, g, i0, i1, y, i3, o, i5⟩ | ⟨rfl, b, h, a, e, hm, i, n, d, g, i0, i1, y, i3, o, i5, i6, i7⟩ | ⟨rfl, b, h, a, e, hm, i, n, d, g, i0, i1, y, i3, o, i5, i6⟩)
 ·skip
  refine ⟨_, rfl, xK n (yF (zQ (zB (yF (wR (zG (zG (zsl 9 s (nEq a ((s).length) ?_ ?_)))))))))⟩
  ·intro ax
   refine nQ (zT (W_goto (wS (jmpQ_goto ?_))))
   refine ⟨_, zo, Or.inr (Or.inr (⟨rfl, b, h, a, e, rfl, i, zk, d, g, zo, zo, ?_, ?_, ?_, zo, zo⟩))⟩
   ·assumption
   ·assumption
   first | assumption | exact o
  intro a5
  refine nQ (zF (zQ (zB (yF (wR (zG (zG ?_)))))))
  have hz := yL s a zo; obtain ⟨j, ad⟩ := hz
  have := j.toNat_lt
  refine L_sindex (k := .i64) s a j underlying9 ad zk zk (L_cmp .u8 ((j.toNat : Nat) : Int) ((59 : Nat) : Int) (j.toNat = 59) rfl (cmpN_eq j.toNat 59) zk zk ?_ ?_)
  ·intro ag
   replace ag : j.toNat = 59 := by omega
   refine nQ (zT (W_goto (wS (jmpQ_goto ?_))))
   refine ⟨_, zo, Or.inr (Or.inl (⟨rfl, b, h, a, e, rfl, i, zk, d, g, zo, zo, ?_, ?_, ?_, zo, ?_, zo⟩))⟩
   ·assumption
   ·assumption
   ·first | assumption | exact o
   exact ⟨_, by assumption, by assumption⟩
  intro an
  replace an : j.toNat ≠ 59 := by omega
  refine nQ (zF (zQ (zB (wR (zG (zad a 1 (zH (nW (W_goto (wS (jmpQ_goto ?_)))))))))))
  refine ⟨_, zo, Or.inl (⟨rfl, b, h, (a + 1), e, rfl, i, zk, d, g, zo, zo, ?_, ?_, ?_, zo⟩)⟩
  ·exact noB_succ y za za
  ·assumption
  first | assumption | exact o
 ·skip
  refine ⟨_, rfl, xK n ?_⟩
  obtain ⟨c0, al, ah⟩ := i6
  refine yF (zQ (zB (wR (zG (zG (zG (zG (L_sslice s h a underlying9 zk ⟨.i64, zk⟩ ⟨.i64, zk⟩ zo zo (zc (wM (List.drop h (List.take a s)) _ (by (simp only [List.length_drop, List.length_take]; omega))) ?_)))))))))
  rintro _ a4 ⟨rfl, r⟩
  have := trm_len (List.drop h (List.take a s))
  have g := g.tr r
  have d := d.below r
  refine wV el88 w.heap.size e b (trmF (List.drop h (List.take a s))) g.size d zo zk rfl rfl zk rfl zk zk ?_
  intro ao ay u z ai
  have g := g.tg g.size z d
  have d := u
  refine zH (nR (zG (zad a 1 (zH (nR (zG (zH (nW (W_goto (wS (jmpQ_goto ?_)))))))))))
  refine ⟨_, zo, Or.inl (⟨rfl, (b ++ [(trmF (List.drop h (List.take a s)))]), (a + 1), (a + 1), ao, rfl, i, zk, d, g, zo, zo, ?_, ?_, ?_, ?_⟩)⟩
  ·exact noB_zero _ _ _
  ·exact fld_hit y i0 al ah i3
  ·first | assumption | exact o
  (simp only [List.length_append, List.length_cons, List.length_nil]; omega)
 skip
 refine ⟨_, rfl, xK n (yF (zQ (zB (wR (zG (zG (zG (L_ssfrom s h underlying9 zk ⟨.i64, zk⟩ zo (zc (wM (List.drop h s) _ (by (simp only [List.length_drop, List.length_take]; omega))) ?_)))))))))⟩
 rintro _ a1 ⟨rfl, q⟩
 have := trm_len (List.drop h s)
 have g := g.tr q
 have d := d.below q
 refine wV el88 w.heap.size e b (trmF (List.drop h s)) g.size d zo zk rfl rfl zk rfl zk zk ?_
 intro ab a2 ac aa ap
 have g := g.tg g.size aa d
 have d := ac
 exact zH (nQ (zS (jmpQ_ret (yC [ab] (hd := i) ⟨ab, rfl, d.cast (by exact fld_end y zo i3 o), g⟩))))
theorem c_lines_Cut (s : List UInt8) (w : World) (hs : s.length ≤ 1073741824) :
  Calls Tryz.prog 69 #[(S s)] w (Ret fun v w' => ∃ (q0 : Value), v = (.tuple #[q0, (S ((cutF s).2))]) ∧ Row w' w.heap.size 9 1 encStr q0 ((cutF s).1) ∧ Below w.heap.size w w') := by
 refine wG 17 func69 rfl ?_
 have b := Below.refl w.heap.size w
 refine wR (zH (zH (nR (zG (zc (c_strings_Cut s ([35] : List UInt8) _ (by first | omega | decide | rfl) (by first | omega | decide | rfl)) ?_)))))
 rintro _ g ⟨rfl, e⟩
 have := wB s ([35] : List UInt8)
 refine zG (zr (S ((Lib.cut s ([35] : List UInt8)).1)) (zr (S ((Lib.cut s ([35] : List UInt8)).2.1)) (zr (.bool ((Lib.cut s ([35] : List UInt8)).2.2)) (zH (zH (zH (nR (zG (zc (c_lines_fields ((Lib.cut s ([35] : List UInt8)).1) _ (by first | omega | decide | rfl)) ?_)))))))))
 rintro f i ⟨_, rfl, a, d⟩
 have b := b.tr e
 have a := a.base b.size
 refine zG (zc (wM ((Lib.cut s ([35] : List UInt8)).2.1) _ (by first | omega | decide | rfl)) ?_)
 rintro _ h ⟨rfl, c⟩
 have := trm_len ((Lib.cut s ([35] : List UInt8)).2.1)
 have b := (b.tr d).tr c
 have a := a.below c
 exact zH (zH (nQ (zS (yC [f, (S (trmF ((Lib.cut s ([35] : List UInt8)).2.1)))] ⟨f, xM rfl (congrArg S (by rfl)), a.cast (by rfl), b⟩))))
theorem c_lines_named (s : List UInt8) (w : World) (hs : s.length ≤ 1073741824) :
  Calls Tryz.prog 73 #[(S s)] w (Ret fun v w' => v = (.bool (nameF s)) ∧ Below w.heap.size w w') := by
 refine wG 35 func73 rfl ?_
 have e := Below.refl w.heap.size w
 refine wR (zH (nW (wR (zG (L_range s underlying9 zk ?_)))))
 intro o w2 k
 have c := k.ge e.size
 have d := k.here
 refine nQ (yI ?_)
 replace e := e.tr k.below
 refine xN (fun m s0 w0 => ∃ (pos : Nat), (m = s.length - pos) ∧ (s0.ds = []) ∧ ([0, 6].map s0.f = [(S s), (pt o 0)]) ∧ (w0.heap[o]? = some (.stringIter ⟨(s).toArray⟩ pos)) ∧ (Below w.heap.size w w0) ∧ (pos ≤ s.length) ∧ ((s.drop pos).all nmB = s.all nmB)) _ ⟨0, rfl, zk, zk, d, e, by omega, rfl⟩ ?_
 rintro m4 s5 w6 ⟨pos, hm, g, q, d, e, i1, i⟩
 refine xK q (wR ?_)
 rcases Nat.lt_or_ge pos (s).length with a | j
 ·refine L_next s o pos zk d a ?_
  intro b w7 p h
  replace d := h.here
  have := dec_pos s pos; have := dec_fits s pos a; have := dec_le s pos
  have n : 0 ≤ b := by omega
  have l : b ≤ 2147483647 := by omega
  refine zr (.bool true) (nW (zT (zQ (zB (yI (wR (zr (I3 b) (zH (nQ (yI (yF (wR (zG (zGe .i32 b 65 ?_ ?_))))))))))))))
  ·intro h9
   refine zG (zw (zG (zw (zLe .i32 b 90 ?_ ?_))))
   ·intro a0
    refine xE (zH (nQ (zT (zQ (zB (zT (zQ (zL (zL ?_)))))))))
    replace e := e.trans (h.below c)
    exact zB ⟨_, zo, (pos + (dec s pos).2), rfl, g, zk, d, e, zo, wI a zo i⟩
   intro bv
   refine xE (zH (nQ (zF (wR (zG (zGe .i32 b 97 ?_ ?_))))))
   ·intro bo
    refine zG (zw (zG (zw (zLe .i32 b 122 ?_ ?_))))
    ·intro br
     refine xE (zH (nQ (zT (zQ (zB (zT (zQ (zL (zL ?_)))))))))
     replace e := e.trans (h.below c)
     exact zB ⟨_, zo, (pos + (dec s pos).2), rfl, g, zk, d, e, zo, wI a zo i⟩
    intro bf
    refine xE (zH (nQ (zF (wR (zG (zGe .i32 b 48 ?_ ?_))))))
    ·intro r
     refine zG (zw (zG (zw (zLe .i32 b 57 ?_ ?_))))
     ·intro ah
      refine xE (zH (nQ (zT (zQ (zB (zT (zQ (zL (zL ?_)))))))))
      replace e := e.trans (h.below c)
      exact zB ⟨_, zo, (pos + (dec s pos).2), rfl, g, zk, d, e, zo, wI a zo i⟩
     intro av
     refine xE (zH (nQ (zF (wR (zG (wC .i32 b 95 ?_ ?_))))))
     ·intro ar
      refine zH (nQ (zT (zQ (zB (zT (zQ (zL (zL ?_))))))))
      replace e := e.trans (h.below c)
      exact zB ⟨_, zo, (pos + (dec s pos).2), rfl, g, zk, d, e, zo, wI a zo i⟩
     intro bh
     refine zH (nQ (zF (zW (zG (wC .i32 b 45 ?_ ?_)))))
     ·intro ae
      refine zH (nQ (zT (zQ (zL (zL ?_)))))
      replace e := e.trans (h.below c)
      exact zB ⟨_, zo, (pos + (dec s pos).2), rfl, g, zk, d, e, zo, wI a zo i⟩
     intro a8
     replace e := e.trans (h.below c)
     exact zH (nQ (zF (wR (zH (nQ (zS (zK (zK (zE (zK (zE (yC [(.bool false)] (hd := g) ⟨eb (by exact (nm_off a zo i).symm), e⟩))))))))))))
    intro aa
    refine zG (zs (zs (xC (zH (nQ (zF (wR (zG (wC .i32 b 95 ?_ ?_)))))))))
    ·intro ax
     refine zH (nQ (zT (zQ (zB (zT (zQ (zL (zL ?_))))))))
     replace e := e.trans (h.below c)
     exact zB ⟨_, zo, (pos + (dec s pos).2), rfl, g, zk, d, e, zo, wI a zo i⟩
    intro bc
    refine zH (nQ (zF (zW (zG (wC .i32 b 45 ?_ ?_)))))
    ·intro az
     refine zH (nQ (zT (zQ (zL (zL ?_)))))
     replace e := e.trans (h.below c)
     exact zB ⟨_, zo, (pos + (dec s pos).2), rfl, g, zk, d, e, zo, wI a zo i⟩
    intro ap
    replace e := e.trans (h.below c)
    exact zH (nQ (zF (wR (zH (nQ (zS (zK (zK (zE (zK (zE (yC [(.bool false)] (hd := g) ⟨eb (by exact (nm_off a zo i).symm), e⟩))))))))))))
   intro bd
   refine zG (zs (zs (xC (zH (nQ (zF (wR (zG (zGe .i32 b 48 ?_ ?_)))))))))
   ·intro a2
    refine zG (zw (zG (zw (zLe .i32 b 57 ?_ ?_))))
    ·intro au
     refine xE (zH (nQ (zT (zQ (zB (zT (zQ (zL (zL ?_)))))))))
     replace e := e.trans (h.below c)
     exact zB ⟨_, zo, (pos + (dec s pos).2), rfl, g, zk, d, e, zo, wI a zo i⟩
    intro bk
    refine xE (zH (nQ (zF (wR (zG (wC .i32 b 95 ?_ ?_))))))
    ·intro u
     refine zH (nQ (zT (zQ (zB (zT (zQ (zL (zL ?_))))))))
     replace e := e.trans (h.below c)
     exact zB ⟨_, zo, (pos + (dec s pos).2), rfl, g, zk, d, e, zo, wI a zo i⟩
    intro ac
    refine zH (nQ (zF (zW (zG (wC .i32 b 45 ?_ ?_)))))
    ·intro a5
     refine zH (nQ (zT (zQ (zL (zL ?_)))))
     replace e := e.trans (h.below c)
     exact zB ⟨_, zo, (pos + (dec s pos).2), rfl, g, zk, d, e, zo, wI a zo i⟩
    intro be
    replace e := e.trans (h.below c)
    exact zH (nQ (zF (wR (zH (nQ (zS (zK (zK (zE (zK (zE (yC [(.bool false)] (hd := g) ⟨eb (by exact (nm_off a zo i).symm), e⟩))))))))))))
   intro ak
   refine zG (zs (zs (xC (zH (nQ (zF (wR (zG (wC .i32 b 95 ?_ ?_)))))))))
   ·intro ab
    refine zH (nQ (zT (zQ (zB (zT (zQ (zL (zL ?_))))))))
    replace e := e.trans (h.below c)
    exact zB ⟨_, zo, (pos + (dec s pos).2), rfl, g, zk, d, e, zo, wI a zo i⟩
   intro am
   refine zH (nQ (zF (zW (zG (wC .i32 b 45 ?_ ?_)))))
   ·intro a1
    refine zH (nQ (zT (zQ (zL (zL ?_)))))
    replace e := e.trans (h.below c)
    exact zB ⟨_, zo, (pos + (dec s pos).2), rfl, g, zk, d, e, zo, wI a zo i⟩
   intro ay
   replace e := e.trans (h.below c)
   exact zH (nQ (zF (wR (zH (nQ (zS (zK (zK (zE (zK (zE (yC [(.bool false)] (hd := g) ⟨eb (by exact (nm_off a zo i).symm), e⟩))))))))))))
  intro bp
  refine zG (zs (zs (xC (zH (nQ (zF (wR (zG (zGe .i32 b 97 ?_ ?_)))))))))
  ·intro al
   refine zG (zw (zG (zw (zLe .i32 b 122 ?_ ?_))))
   ·intro z
    refine xE (zH (nQ (zT (zQ (zB (zT (zQ (zL (zL ?_)))))))))
    replace e := e.trans (h.below c)
    exact zB ⟨_, zo, (pos + (dec s pos).2), rfl, g, zk, d, e, zo, wI a zo i⟩
   intro an
   refine xE (zH (nQ (zF (wR (zG (zGe .i32 b 48 ?_ ?_))))))
   ·intro y
    refine zG (zw (zG (zw (zLe .i32 b 57 ?_ ?_))))
    ·intro ai
     refine xE (zH (nQ (zT (zQ (zB (zT (zQ (zL (zL ?_)))))))))
     replace e := e.trans (h.below c)
     exact zB ⟨_, zo, (pos + (dec s pos).2), rfl, g, zk, d, e, zo, wI a zo i⟩
    intro aq
    refine xE (zH (nQ (zF (wR (zG (wC .i32 b 95 ?_ ?_))))))
    ·intro af
     refine zH (nQ (zT (zQ (zB (zT (zQ (zL (zL ?_))))))))
     replace e := e.trans (h.below c)
     exact zB ⟨_, zo, (pos + (dec s pos).2), rfl, g, zk, d, e, zo, wI a zo i⟩
    intro bi
    refine zH (nQ (zF (zW (zG (wC .i32 b 45 ?_ ?_)))))
    ·intro a9
     refine zH (nQ (zT (zQ (zL (zL ?_)))))
     replace e := e.trans (h.below c)
     exact zB ⟨_, zo, (pos + (dec s pos).2), rfl, g, zk, d, e, zo, wI a zo i⟩
    intro ad
    replace e := e.trans (h.below c)
    exact zH (nQ (zF (wR (zH (nQ (zS (zK (zK (zE (zK (zE (yC [(.bool false)] (hd := g) ⟨eb (by exact (nm_off a zo i).symm), e⟩))))))))))))
   intro ao
   refine zG (zs (zs (xC (zH (nQ (zF (wR (zG (wC .i32 b 95 ?_ ?_)))))))))
   ·intro aw
    refine zH (nQ (zT (zQ (zB (zT (zQ (zL (zL ?_))))))))
    replace e := e.trans (h.below c)
    exact zB ⟨_, zo, (pos + (dec s pos).2), rfl, g, zk, d, e, zo, wI a zo i⟩
   intro bt
   refine zH (nQ (zF (zW (zG (wC .i32 b 45 ?_ ?_)))))
   ·intro bs
    refine zH (nQ (zT (zQ (zL (zL ?_)))))
    replace e := e.trans (h.below c)
    exact zB ⟨_, zo, (pos + (dec s pos).2), rfl, g, zk, d, e, zo, wI a zo i⟩
   intro bu
   replace e := e.trans (h.below c)
   exact zH (nQ (zF (wR (zH (nQ (zS (zK (zK (zE (zK (zE (yC [(.bool false)] (hd := g) ⟨eb (by exact (nm_off a zo i).symm), e⟩))))))))))))
  intro bn
  refine zG (zs (zs (xC (zH (nQ (zF (wR (zG (zGe .i32 b 48 ?_ ?_)))))))))
  ·intro a3
   refine zG (zw (zG (zw (zLe .i32 b 57 ?_ ?_))))
   ·intro bq
    refine xE (zH (nQ (zT (zQ (zB (zT (zQ (zL (zL ?_)))))))))
    replace e := e.trans (h.below c)
    exact zB ⟨_, zo, (pos + (dec s pos).2), rfl, g, zk, d, e, zo, wI a zo i⟩
   intro a7
   refine xE (zH (nQ (zF (wR (zG (wC .i32 b 95 ?_ ?_))))))
   ·intro a4
    refine zH (nQ (zT (zQ (zB (zT (zQ (zL (zL ?_))))))))
    replace e := e.trans (h.below c)
    exact zB ⟨_, zo, (pos + (dec s pos).2), rfl, g, zk, d, e, zo, wI a zo i⟩
   intro bl
   refine zH (nQ (zF (zW (zG (wC .i32 b 45 ?_ ?_)))))
   ·intro a6
    refine zH (nQ (zT (zQ (zL (zL ?_)))))
    replace e := e.trans (h.below c)
    exact zB ⟨_, zo, (pos + (dec s pos).2), rfl, g, zk, d, e, zo, wI a zo i⟩
   intro aj
   replace e := e.trans (h.below c)
   exact zH (nQ (zF (wR (zH (nQ (zS (zK (zK (zE (zK (zE (yC [(.bool false)] (hd := g) ⟨eb (by exact (nm_off a zo i).symm), e⟩))))))))))))
  intro bb
  refine zG (zs (zs (xC (zH (nQ (zF (wR (zG (wC .i32 b 95 ?_ ?_)))))))))
  ·intro ag
   refine zH (nQ (zT (zQ (zB (zT (zQ (zL (zL ?_))))))))
   replace e := e.trans (h.below c)
   exact zB ⟨_, zo, (pos + (dec s pos).2), rfl, g, zk, d, e, zo, wI a zo i⟩
  intro bj
  refine zH (nQ (zF (zW (zG (wC .i32 b 45 ?_ ?_)))))
  ·intro ba
   refine zH (nQ (zT (zQ (zL (zL ?_)))))
   replace e := e.trans (h.below c)
   exact zB ⟨_, zo, (pos + (dec s pos).2), rfl, g, zk, d, e, zo, wI a zo i⟩
  intro t
  replace e := e.trans (h.below c)
  exact zH (nQ (zF (wR (zH (nQ (zS (zK (zK (zE (zK (zE (yC [(.bool false)] (hd := g) ⟨eb (by exact (nm_off a zo i).symm), e⟩))))))))))))
 refine L_nextEnd s o pos zk d j (zr (.bool false) (nW (zF (xG (yD (yD (yQ (zB (wR (zG (L_sne s ([] : List UInt8) rfl zk zk ?_ ?_)))))))))))
 ·intro bg
  exact zH (nQ (zS (yC [(.bool true)] (hd := g) ⟨eb (by (rw [nm_end zo i]; simp [*]; done)), e⟩)))
 intro bm
 exact zH (nQ (zS (yC [(.bool false)] (hd := g) ⟨eb (by (rw [nm_end zo i]; simp [*]; done)), e⟩)))
theorem c_lines_pieces (s : List UInt8) (w : World) (hs : s.length ≤ 1073741824) :
  Calls Tryz.prog 67 #[(S s)] w (Ret fun v w' => ∃ (q0 : Value), v = q0 ∧ Row w' w.heap.size 129 3 encPc q0 (pcsI s) ∧ Below w.heap.size w w') := by
 refine wG 53 func67 rfl ?_
 have g := Below.refl w.heap.size w
 have b5 := mark_len s
 refine wR (zH (nR (zH (nR (zH (nW (wR (zG (zc (xH s ([239, 187, 191] : List UInt8) _ ) ?_)))))))))
 rintro _ w1 ⟨rfl, aq⟩
 refine zX (hpB s ([239, 187, 191] : List UInt8)) ?_ ?_
 ·intro h4
  have := hp_len h4; simp only [List.length_cons, List.length_nil] at this
  refine nQ (zT (zW (zH (nQ (yI ?_)))))
  replace g := g.tr aq
  refine xN (fun m s0 w0 => ∃ (a : Int) (h : List (Int × Int × Int)) (i : Value), (m = s.length - a.toNat) ∧ (s0.ds = []) ∧ ([0, 3, 4].map s0.f = [(S s), i, (I6 a)]) ∧ (Row w0 w.heap.size 129 3 encPc i h) ∧ (Below w.heap.size w w0) ∧ (0 ≤ a) ∧ (a ≤ s.length) ∧ (h.length ≤ a.toNat) ∧ (h ++ (pcsFrom s a.toNat a.toNat).map toI = pcsI s)) _ ⟨3, [], (.slice none 0 0), rfl, zk, zk, Row.nil _ _ _ _ _, g, by omega, by omega, zi, (by simp [pcsI, markN, markT, *])⟩ ?_
  rintro m5 s6 w7 ⟨a, h, i, hm, q, ak, d, g, i1, i2, i4, i3⟩
  refine xK ak ?_
  have bl : (List.drop a.toNat s).length = s.length - a.toNat := List.length_drop
  refine yI (wR (zG (zG (L_ssfrom s ((a).toNat) underlying9 zk (toNat_val a .i64 zk zo) zo (zc (xS (List.drop ((a).toNat) s) 10 _ ) ?_)))))
  rintro _ w8 ⟨rfl, ac⟩
  have := ib_range (List.drop ((a).toNat) s) 10
  refine zH (nW (wR (zG (zLt .i64 (ibF (List.drop ((a).toNat) s) 10) 0 ?_ ?_))))
  ·intro cj
   replace g := g.tr ac
   replace d := d.below ac
   refine nQ (zT (wR (zG (zG (zG (zsl 9 s (zG (zsl 9 s (zr (Value.agg #[(I6 a), (N6 ((s).length)), (N6 ((s).length))]) (wV el126 w.heap.size i h (a, (((s).length : Nat) : Int), (((s).length : Nat) : Int)) g.size d zo zk rfl rfl zk rfl zk zk ?_))))))))))
   intro au b0 a3 a7 a9
   replace g := g.tg g.size a7 d
   replace d := a3
   exact zH (nQ (zS (zE (zK (zE (zK (yC [au] (hd := q) ⟨au, rfl, d.cast (by exact pcsZ_end i1 i2 zo i3), g⟩)))))))
  intro b4
  refine nQ (zF (zQ (zB (wR (zG (zG (zG (wK a (ibF (List.drop ((a).toNat) s) 10) (a + (ibF (List.drop ((a).toNat) s) 10)) rfl zk zk (xP _ zh zh) (zG (zG (wK a (ibF (List.drop ((a).toNat) s) 10) (a + (ibF (List.drop ((a).toNat) s) 10)) rfl zk zk (xP _ zh zh) (wK (a + (ibF (List.drop ((a).toNat) s) 10)) 1 ((a + (ibF (List.drop ((a).toNat) s) 10)) + 1) rfl zk zk (xP _ zh zh) (zr (Value.agg #[(I6 a), (I6 (a + (ibF (List.drop ((a).toNat) s) 10))), (I6 ((a + (ibF (List.drop ((a).toNat) s) 10)) + 1))]) (zN [(I6 0), (I6 0), (I6 0)] 129 ?_))))))))))))))
  intro a1 cd j
  replace g := g.tr ac
  have n := j.ge g.size
  replace d := d.below ac
  have b := d.new_ne j
  have c := j.here
  refine wN [(I6 a), (I6 (a + (ibF (List.drop ((a).toNat) s) 10))), (I6 ((a + (ibF (List.drop ((a).toNat) s) 10)) + 1))] c ?_
  intro bs p
  replace c := p.here
  refine nW (wR (zG (zGt .i64 (ibF (List.drop ((a).toNat) s) 10) 0 ?_ ?_)))
  ·intro b6
   refine zG (zw (zG (zw (zr (pt a1 1) (zw (zO 1 c rfl (zw (wK (a + (ibF (List.drop ((a).toNat) s) 10)) 1 ((a + (ibF (List.drop ((a).toNat) s) 10)) - 1) rfl zk zk (xP _ zh zh) (zw ?_)))))))))
   have hz := yL s (((a + (ibF (List.drop ((a).toNat) s) 10)) - 1).toNat) zo; obtain ⟨r, az⟩ := hz
   have := r.toNat_lt
   refine L_sindexZ (k := .i64) s ((a + (ibF (List.drop ((a).toNat) s) 10)) - 1) (((a + (ibF (List.drop ((a).toNat) s) 10)) - 1).toNat) r zo underlying9 az zk zk (zw (L_cmp .u8 ((r.toNat : Nat) : Int) ((13 : Nat) : Int) (r.toNat = 13) rfl (cmpN_eq r.toNat 13) zk zk ?_ ?_))
   ·intro bg
    replace bg : r.toNat = 13 := by omega
    refine xE (nQ (zT (zW (zFO 1 c rfl (wK (a + (ibF (List.drop ((a).toNat) s) 10)) 1 ((a + (ibF (List.drop ((a).toNat) s) 10)) - 1) rfl zk zk (xP _ zh zh) (zr (pt a1 1) (z1 1 (I6 ((a + (ibF (List.drop ((a).toNat) s) 10)) - 1)) [(I6 a), (I6 ((a + (ibF (List.drop ((a).toNat) s) 10)) - 1)), (I6 ((a + (ibF (List.drop ((a).toNat) s) 10)) + 1))] c ?_)))))))
    intro bp z
    replace c := z.here
    replace g := ((g.tr j.below).trans (p.below n)).trans (z.below n)
    replace d := ((d.below j.below).wrote p b).wrote z b
    refine nR (zG (zOW c (wV el126 w.heap.size i h (a, ((a + (ibF (List.drop ((a).toNat) s) 10)) - 1), ((a + (ibF (List.drop ((a).toNat) s) 10)) + 1)) g.size d zo zk rfl rfl zk rfl zk zk ?_)))
    intro bb ce ay ae an
    have e := wP an b (zV c)
    replace g := g.tg g.size ae d
    replace c := yH c ae b
    have b := e
    replace d := ay
    refine zH (nQ (zW (zFO 2 c rfl (zH (zU (zL (zB ⟨_, zo, ((a + (ibF (List.drop ((a).toNat) s) 10)) + 1), (h ++ [(a, ((a + (ibF (List.drop ((a).toNat) s) 10)) - 1), ((a + (ibF (List.drop ((a).toNat) s) 10)) + 1))]), bb, rfl, q, zk, d, g, zo, zo, ?_, ?_⟩)))))))
    ·simp only [List.length_append, List.length_cons, List.length_nil]; omega
    exact pcsZ_step i1 rfl zo (.inl ⟨rfl, by omega, _, by assumption, by assumption⟩) i3
   intro bk
   replace bk : r.toNat ≠ 13 := by omega
   replace g := (g.tr j.below).trans (p.below n)
   replace d := (d.below j.below).wrote p b
   refine xE (nQ (zF (zQ (zB (wR (zG (zOW c (wV el126 w.heap.size i h (a, (a + (ibF (List.drop ((a).toNat) s) 10)), ((a + (ibF (List.drop ((a).toNat) s) 10)) + 1)) g.size d zo zk rfl rfl zk rfl zk zk ?_))))))))
   intro bi b9 aw ai ap
   have e := wP ap b (zV c)
   replace g := g.tg g.size ai d
   replace c := yH c ai b
   have b := e
   replace d := aw
   refine zH (nQ (zW (zFO 2 c rfl (zH (zU (zL (zB ⟨_, zo, ((a + (ibF (List.drop ((a).toNat) s) 10)) + 1), (h ++ [(a, (a + (ibF (List.drop ((a).toNat) s) 10)), ((a + (ibF (List.drop ((a).toNat) s) 10)) + 1))]), bi, rfl, q, zk, d, g, zo, zo, ?_, ?_⟩)))))))
   ·simp only [List.length_append, List.length_cons, List.length_nil]; omega
   exact pcsZ_step i1 rfl zo (.inr ⟨rfl, .inr ⟨_, by assumption, by assumption⟩⟩) i3
  intro cg
  replace g := (g.tr j.below).trans (p.below n)
  replace d := (d.below j.below).wrote p b
  refine zG (zs (zs (zs (zs (zs (zs (xC (nQ (zF (zQ (zB (wR (zG (zOW c (wV el126 w.heap.size i h (a, (a + (ibF (List.drop ((a).toNat) s) 10)), ((a + (ibF (List.drop ((a).toNat) s) 10)) + 1)) g.size d zo zk rfl rfl zk rfl zk zk ?_)))))))))))))))
  intro bc bt av ag ao
  have e := wP ao b (zV c)
  replace g := g.tg g.size ag d
  replace c := yH c ag b
  have b := e
  replace d := av
  refine zH (nQ (zW (zFO 2 c rfl (zH (zU (zL (zB ⟨_, zo, ((a + (ibF (List.drop ((a).toNat) s) 10)) + 1), (h ++ [(a, (a + (ibF (List.drop ((a).toNat) s) 10)), ((a + (ibF (List.drop ((a).toNat) s) 10)) + 1))]), bc, rfl, q, zk, d, g, zo, zo, ?_, ?_⟩)))))))
  ·simp only [List.length_append, List.length_cons, List.length_nil]; omega
  exact pcsZ_step i1 rfl zo (.inr ⟨rfl, .inl zo⟩) i3
 intro bz
 refine nQ (zF (zQ (zB (yI ?_))))
 replace g := g.tr aq
 refine xN (fun m s0 w0 => ∃ (a : Int) (h : List (Int × Int × Int)) (i : Value), (m = s.length - a.toNat) ∧ (s0.ds = []) ∧ ([0, 3, 4].map s0.f = [(S s), i, (I6 a)]) ∧ (Row w0 w.heap.size 129 3 encPc i h) ∧ (Below w.heap.size w w0) ∧ (0 ≤ a) ∧ (a ≤ s.length) ∧ (h.length ≤ a.toNat) ∧ (h ++ (pcsFrom s a.toNat a.toNat).map toI = pcsI s)) _ ⟨0, [], (.slice none 0 0), rfl, zk, zk, Row.nil _ _ _ _ _, g, by omega, by omega, zi, (by simp [pcsI, markN, markT, *])⟩ ?_
 rintro cb bo b2 ⟨a, h, i, hm, q, ak, d, g, i1, i2, i4, i3⟩
 refine xK ak ?_
 have bl : (List.drop a.toNat s).length = s.length - a.toNat := List.length_drop
 refine yI (wR (zG (zG (L_ssfrom s ((a).toNat) underlying9 zk (toNat_val a .i64 zk zo) zo (zc (xS (List.drop ((a).toNat) s) 10 _ ) ?_)))))
 rintro _ b7 ⟨rfl, u⟩
 have := ib_range (List.drop ((a).toNat) s) 10
 refine zH (nW (wR (zG (zLt .i64 (ibF (List.drop ((a).toNat) s) 10) 0 ?_ ?_))))
 ·intro ci
  replace g := g.tr u
  replace d := d.below u
  refine nQ (zT (wR (zG (zG (zG (zsl 9 s (zG (zsl 9 s (zr (Value.agg #[(I6 a), (N6 ((s).length)), (N6 ((s).length))]) (wV el126 w.heap.size i h (a, (((s).length : Nat) : Int), (((s).length : Nat) : Int)) g.size d zo zk rfl rfl zk rfl zk zk ?_))))))))))
  intro a4 bx ar ax bh
  replace g := g.tg g.size ax d
  replace d := ar
  exact zH (nQ (zS (zE (zK (zE (zK (yC [a4] (hd := q) ⟨a4, rfl, d.cast (by exact pcsZ_end i1 i2 zo i3), g⟩)))))))
 intro cc
 refine nQ (zF (zQ (zB (wR (zG (zG (zG (wK a (ibF (List.drop ((a).toNat) s) 10) (a + (ibF (List.drop ((a).toNat) s) 10)) rfl zk zk (xP _ zh zh) (zG (zG (wK a (ibF (List.drop ((a).toNat) s) 10) (a + (ibF (List.drop ((a).toNat) s) 10)) rfl zk zk (xP _ zh zh) (wK (a + (ibF (List.drop ((a).toNat) s) 10)) 1 ((a + (ibF (List.drop ((a).toNat) s) 10)) + 1) rfl zk zk (xP _ zh zh) (zr (Value.agg #[(I6 a), (I6 (a + (ibF (List.drop ((a).toNat) s) 10))), (I6 ((a + (ibF (List.drop ((a).toNat) s) 10)) + 1))]) (zN [(I6 0), (I6 0), (I6 0)] 129 ?_))))))))))))))
 intro a5 cf l
 replace g := g.tr u
 have n := l.ge g.size
 replace d := d.below u
 have b := d.new_ne l
 have c := l.here
 refine wN [(I6 a), (I6 (a + (ibF (List.drop ((a).toNat) s) 10))), (I6 ((a + (ibF (List.drop ((a).toNat) s) 10)) + 1))] c ?_
 intro bw o
 replace c := o.here
 refine nW (wR (zG (zGt .i64 (ibF (List.drop ((a).toNat) s) 10) 0 ?_ ?_)))
 ·intro bu
  refine zG (zw (zG (zw (zr (pt a5 1) (zw (zO 1 c rfl (zw (wK (a + (ibF (List.drop ((a).toNat) s) 10)) 1 ((a + (ibF (List.drop ((a).toNat) s) 10)) - 1) rfl zk zk (xP _ zh zh) (zw ?_)))))))))
  have hz := yL s (((a + (ibF (List.drop ((a).toNat) s) 10)) - 1).toNat) zo; obtain ⟨t, a2⟩ := hz
  have := t.toNat_lt
  refine L_sindexZ (k := .i64) s ((a + (ibF (List.drop ((a).toNat) s) 10)) - 1) (((a + (ibF (List.drop ((a).toNat) s) 10)) - 1).toNat) t zo underlying9 a2 zk zk (zw (L_cmp .u8 ((t.toNat : Nat) : Int) ((13 : Nat) : Int) (t.toNat = 13) rfl (cmpN_eq t.toNat 13) zk zk ?_ ?_))
  ·intro ba
   replace ba : t.toNat = 13 := by omega
   refine xE (nQ (zT (zW (zFO 1 c rfl (wK (a + (ibF (List.drop ((a).toNat) s) 10)) 1 ((a + (ibF (List.drop ((a).toNat) s) 10)) - 1) rfl zk zk (xP _ zh zh) (zr (pt a5 1) (z1 1 (I6 ((a + (ibF (List.drop ((a).toNat) s) 10)) - 1)) [(I6 a), (I6 ((a + (ibF (List.drop ((a).toNat) s) 10)) - 1)), (I6 ((a + (ibF (List.drop ((a).toNat) s) 10)) + 1))] c ?_)))))))
   intro br y
   replace c := y.here
   replace g := ((g.tr l.below).trans (o.below n)).trans (y.below n)
   replace d := ((d.below l.below).wrote o b).wrote y b
   refine nR (zG (zOW c (wV el126 w.heap.size i h (a, ((a + (ibF (List.drop ((a).toNat) s) 10)) - 1), ((a + (ibF (List.drop ((a).toNat) s) 10)) + 1)) g.size d zo zk rfl rfl zk rfl zk zk ?_)))
   intro bm ca a8 ad al
   have e := wP al b (zV c)
   replace g := g.tg g.size ad d
   replace c := yH c ad b
   have b := e
   replace d := a8
   refine zH (nQ (zW (zFO 2 c rfl (zH (zU (zL (zB ⟨_, zo, ((a + (ibF (List.drop ((a).toNat) s) 10)) + 1), (h ++ [(a, ((a + (ibF (List.drop ((a).toNat) s) 10)) - 1), ((a + (ibF (List.drop ((a).toNat) s) 10)) + 1))]), bm, rfl, q, zk, d, g, zo, zo, ?_, ?_⟩)))))))
   ·simp only [List.length_append, List.length_cons, List.length_nil]; omega
   exact pcsZ_step i1 rfl zo (.inl ⟨rfl, by omega, _, by assumption, by assumption⟩) i3
  intro bd
  replace bd : t.toNat ≠ 13 := by omega
  replace g := (g.tr l.below).trans (o.below n)
  replace d := (d.below l.below).wrote o b
  refine xE (nQ (zF (zQ (zB (wR (zG (zOW c (wV el126 w.heap.size i h (a, (a + (ibF (List.drop ((a).toNat) s) 10)), ((a + (ibF (List.drop ((a).toNat) s) 10)) + 1)) g.size d zo zk rfl rfl zk rfl zk zk ?_))))))))
  intro bn ch a6 ah am
  have e := wP am b (zV c)
  replace g := g.tg g.size ah d
  replace c := yH c ah b
  have b := e
  replace d := a6
  refine zH (nQ (zW (zFO 2 c rfl (zH (zU (zL (zB ⟨_, zo, ((a + (ibF (List.drop ((a).toNat) s) 10)) + 1), (h ++ [(a, (a + (ibF (List.drop ((a).toNat) s) 10)), ((a + (ibF (List.drop ((a).toNat) s) 10)) + 1))]), bn, rfl, q, zk, d, g, zo, zo, ?_, ?_⟩)))))))
  ·simp only [List.length_append, List.length_cons, List.length_nil]; omega
  exact pcsZ_step i1 rfl zo (.inr ⟨rfl, .inr ⟨_, by assumption, by assumption⟩⟩) i3
 intro bv
 replace g := (g.tr l.below).trans (o.below n)
 replace d := (d.below l.below).wrote o b
 refine zG (zs (zs (zs (zs (zs (zs (xC (nQ (zF (zQ (zB (wR (zG (zOW c (wV el126 w.heap.size i h (a, (a + (ibF (List.drop ((a).toNat) s) 10)), ((a + (ibF (List.drop ((a).toNat) s) 10)) + 1)) g.size d zo zk rfl rfl zk rfl zk zk ?_)))))))))))))))
 intro be bq a0 af aj
 have e := wP aj b (zV c)
 replace g := g.tg g.size af d
 replace c := yH c af b
 have b := e
 replace d := a0
 refine zH (nQ (zW (zFO 2 c rfl (zH (zU (zL (zB ⟨_, zo, ((a + (ibF (List.drop ((a).toNat) s) 10)) + 1), (h ++ [(a, (a + (ibF (List.drop ((a).toNat) s) 10)), ((a + (ibF (List.drop ((a).toNat) s) 10)) + 1))]), be, rfl, q, zk, d, g, zo, zo, ?_, ?_⟩)))))))
 ·simp only [List.length_append, List.length_cons, List.length_nil]; omega
 exact pcsZ_step i1 rfl zo (.inr ⟨rfl, .inl zo⟩) i3
theorem it_lines_Each_1 (z : Nat) (s : List UInt8) (hs : s.length ≤ 1073741824) :
  Iter (α := Int × List UInt8) Tryz.prog 66 [.pointer (some ⟨z, 0, none⟩)] (fun x => [.int .i64 x.1, S x.2]) (toldF s) (fun w => w.heap[z]? = some (.cells [(S s)].toArray 9 (0, 0))) := by
 intro l J Jx w hN h0 af av hY
 refine wG 30 func66 rfl ?_
 have hb := Below.refl w.heap.size w
 have hs : w.heap.size ≤ w.heap.size := Nat.le_refl _
 have a := hN
 refine wR (zO 0 a rfl (zc (c_lines_pieces s _ zo) ?_))
 rintro q1 w2 ⟨_, rfl, b, ad⟩
 have b := b.base hs
 have hb := hb.trans (ad.mono hs)
 replace hs := Nat.le_trans hs (ad.size)
 have := pcsI_len s
 refine zln underlying126 (b.rd).len (zG (nQ (yI ?_)))
 have r := h0 _ hb
 obtain ⟨K, ak⟩ : ∃ K, K = w2.heap.size := ⟨_, rfl⟩
 rw [← ak] at r
 have u : K ≤ w2.heap.size := by omega
 have ai : w.heap.size ≤ K := by omega
 have t : ∀ g, Value.ownBlock q1 = some g → Iv w.heap.size K g := fun g hg => by have := World.ownsRow.lt b g hg; exact ⟨this.1, by omega⟩
 have a := zA a ad
 refine xN (fun m s0 w0 => ∃ (i : Nat) (q : List (Int × List UInt8)), (m = (pcsI s).length - i) ∧ (s0.ds = []) ∧ ([0, 1, 6, 7, 8].map s0.f = [(.func (.yield l) #[] #[]), (pt z 0), q1, (N6 ((pcsI s).length)), (N6 i)]) ∧ (Row w0 w.heap.size 129 3 encPc q1 (pcsI s)) ∧ (w0.heap[z]? = some (.cells [(S s)].toArray 9 (0, 0))) ∧ (w.heap.size ≤ w0.heap.size) ∧ (K ≤ w0.heap.size) ∧ (J K q w0) ∧ (i ≤ (pcsI s).length) ∧ (q ++ toldL s i ((pcsI s).drop i) = toldF s)) _ ⟨0, [], rfl, zk, zk, b, a, hs, u, r, by omega, rfl⟩ ?_
 rintro m5 s6 w7 ⟨i, q, hm, aa, an, b, a, hs, u, r, i1, i3⟩
 refine xK an (wR (nLt i ((pcsI s).length) ?_ ?_))
 ·intro h8
  refine nW (zT (zQ (zB (yF (yI (wR (zG ?_)))))))
  have hz := yL (pcsI s) i zo; obtain ⟨o, ac⟩ := hz
  have ap := pcsI_ok ac
  obtain ⟨ba, a8, ay, a5⟩ := ap
  refine zEA b.rd el126 i ac [(I6 o.1), (I6 o.2.1), (I6 o.2.2)] rfl fun _ => (zN [(I6 0), (I6 0), (I6 0)] 129 ?_)
  intro ag az c
  have ar := c.ge hs
  have p := Ch.refl (Iv w.heap.size K) w7
  have v : (World.heap w7).size ≤ ag ∨ Iv w.heap.size K ag := .inl (by rw [c.num]; exact p.size)
  have n := b.new_ne c
  replace u := Nat.le_trans u (c.below.size)
  replace hs := Nat.le_trans hs (c.below.size)
  have d := c.here
  refine zH (wN [(I6 o.1), (I6 o.2.1), (I6 o.2.2)] d ?_)
  intro a1 j
  replace u := Nat.le_trans u (Nat.le_of_eq j.size.symm)
  replace hs := Nat.le_trans hs (Nat.le_of_eq j.size.symm)
  have a := zA a c.below
  have a := zD a j (zP a d zi)
  have d := j.here
  refine nW (wR (zFO 0 d rfl (zFO 2 d rfl (wC .i64 o.1 o.2.2 ?_ ?_))))
  ·intro a7
   refine nQ (zT (zS (zE (zK (zE (zE (zK (yC [] (hd := aa) ?_))))))))
   replace p := (p.trans2 (Ch.of_below c.below) (fun _ h => h.elim)).trans2 (Ch.of_wrote j) (fun k e => e ▸ v)
   replace r := af _ _ _ _ r p
   clear p
   have y : q = toldF s := by exact told_stop za za i3
   rw [y] at r
   exact ⟨hs, Or.inl ⟨K, r⟩⟩
  intro a3
  refine nQ (zF (zQ (zB (wR (zG (zG (zad i 1 (zO 0 a rfl (zFO 0 d rfl (zFO 1 d rfl (L_sslice s ((o.1).toNat) ((o.2.1).toNat) underlying9 zk (toNat_val o.1 .i64 zk zo) (toNat_val o.2.1 .i64 zk zo) zo zo ?_)))))))))))
  replace p := (p.trans2 (Ch.of_below c.below) (fun _ h => h.elim)).trans2 (Ch.of_wrote j) (fun k e => e ▸ v)
  replace r := af _ _ _ _ r p
  clear p
  have ab : q ++ [((((i + 1) : Nat) : Int), (List.drop ((o.1).toNat) (List.take ((o.2.1).toNat) s)))] <+: toldF s := by exact pre_of3 (told_step za za i3)
  refine L_yield l [(N6 (i + 1)), (S (List.drop ((o.1).toNat) (List.take ((o.2.1).toNat) s)))] zk zk (hY K q ((((i + 1) : Nat) : Int), (List.drop ((o.1).toNat) (List.take ((o.2.1).toNat) s))) _ r a ai u ab) ?_
  rintro e a2 (⟨rfl, am, hk, ao⟩ | ⟨rfl, al, hk⟩)
  ·refine ⟨true, rfl, ?_⟩
   have b := (b.below c.below).wrote j n
   have b := b.kp hk t
   replace hs := Nat.le_trans hs hk.size
   replace u := Nat.le_trans u hk.size
   replace r := am
   have a := ao
   refine wX true (nQ (zF (zQ (zL (zB (zW (zad i 1 (zG (zU (zB ⟨_, zo, (i + 1), (q ++ [((((i + 1) : Nat) : Int), (List.drop ((o.1).toNat) (List.take ((o.2.1).toNat) s)))]), rfl, aa, zk, b, a, hs, u, r, zo, ?_⟩))))))))))
   exact told_step za za i3
  refine ⟨false, rfl, ?_⟩
  replace hs := Nat.le_trans hs hk.size
  replace u := Nat.le_trans u hk.size
  refine wX false (nQ (zT (zS (zK (zE (zE (zK (yC [] (hd := aa) ?_))))))))
  exact ⟨hs, Or.inr ⟨K, _, _, ab, al⟩⟩
 intro a9
 refine nW (zF (xG (yD (yD (yQ (znrm [] (hd := aa) ?_))))))
 have y : q = toldF s := by exact told_end zo i3
 rw [y] at r
 exact ⟨hs, Or.inl ⟨K, r⟩⟩
theorem c_lines_Each (s : List UInt8) (w : World) :
  Calls Tryz.prog 37 #[(S s)] w (Ret fun v w' => ∃ (cb0 : Nat), v = (.func (.func 66) #[] #[(pt cb0 0)]) ∧ w'.heap[cb0]? = some (.cells [(S s)].toArray 9 (0, 0)) ∧ w.heap.size ≤ cb0 ∧ Below w.heap.size w w') := by
 refine wG 4 func37 rfl ?_
 have d := Below.refl w.heap.size w
 refine wR (zN [(S s)] 9 ?_)
 intro e f a
 have c := a.ge d.size
 have b := a.here
 have d := d.tr a.below
 exact zH (nR (zr (.func (.func 66) #[] #[(pt e 0)]) (zH (nQ (zS (yC [(.func (.func 66) #[] #[(pt e 0)])] ⟨e, rfl, b, c, d⟩))))))
end Go.Proofs.YtddnhlobnembaaaGreatDoor
end

/- === Wlscan === -/
section
/- Walks, written by my program walk.py out of the specification lscan.py: each theorem says what one function returns and that it leaves memory as it was. -/
namespace Go.Proofs.YtddnhlobnembaaaGreatDoor
open Go Go.RowKit Go.FK _root_.Go.Proofs.Tryz
set_option maxHeartbeats 4000000
set_option maxRecDepth 100000
theorem c_lines_Scan (no : Int) (s : List UInt8) (w : World) (hs : s.length ≤ 1073741824) :
  Calls Tryz.prog 39 #[(I6 no), (S s)] w (Ret fun v w' => ∃ (q0 : Value), v = (.tuple #[(Value.agg #[(I6 ((scanF no s).1.1)), (U8 ((scanF no s).1.2.1)), (S ((scanF no s).1.2.2.1)), q0, (S ((scanF no s).1.2.2.2.2))]), (I6 ((scanF no s).2))]) ∧ Row w' w.heap.size 9 1 encStr q0 ((scanF no s).1.2.2.2.1) ∧ Below w.heap.size w w') := by
 refine wG 84 func39 rfl ?_
 have o := Below.refl w.heap.size w
 have dd := cutF_len s
 refine wR (zN [(I6 0), (U8 0), (S []), (.slice none 0 0), (S [])] 90 ?_)
 intro b1 w2 bh
 have aa := bh.ge o.size
 have c := bh.here
 refine zH (nW (wR (zG (zc (c_lines_Check s _ zo) ?_))))
 rintro _ w4 ⟨rfl, bg⟩
 have := chkF_range s
 refine zG (zr (N6 ((chkF s).1)) (zr (I6 ((chkF s).2)) (zH (zH (nR (zG (zNe .i64 ((chkF s).2) 0 ?_ ?_)))))))
 ·intro h7
  replace c := zA c bg
  refine nQ (zT (wR (zr (Value.agg #[(I6 0), (U8 0), (S []), (.slice none 0 0), (S [])]) (zG (wN [(I6 0), (U8 0), (S []), (.slice none 0 0), (S [])] c ?_)))))
  intro w8 bk
  replace c := bk.here
  refine zH (nQ (zS (zE (xA [.cell 4 90, .tmp 5] [(Value.agg #[(I6 0), (U8 0), (S []), (.slice none 0 0), (S [])]), (I6 ((chkF s).2))] rfl rfl ⟨⟨⟨b1, 0, none⟩, zk, yV [(I6 0), (U8 0), (S []), (.slice none 0 0), (S [])] zk zk (yS c)⟩, zk, trivial⟩ ?_))))
  replace o := ((o.tr bh.below).tr bg).trans (bk.below aa)
  exact ⟨(.slice none 0 0), xM (by (rw [scan_bad za]; try rfl; done)) (e6 (by (rw [scan_bad za]; try rfl; done))), (Row.nil _ _ _ _ _).cast (by (rw [scan_bad za]; try rfl; done)), o⟩
 intro cp
 refine nQ (zF (zQ (zB (wR (zG (zr (Value.agg #[(I6 no), (U8 0), (S []), (.slice none 0 0), (S [])]) (zN [(I6 0), (U8 0), (S []), (.slice none 0 0), (S [])] 90 ?_)))))))
 intro z c9 u
 replace c := zA c bg
 have a := yE (zV c) u
 replace o := (o.tr bh.below).tr bg
 have e := u.ge o.size
 have b := u.here
 refine wN [(I6 no), (U8 0), (S []), (.slice none 0 0), (S [])] b ?_
 intro cs y
 replace b := y.here
 refine nR (zG (zc (c_lines_Cut s _ zo) ?_))
 rintro _ c5 ⟨l, rfl, d, j⟩
 replace o := (o.tr u.below).trans (y.below e)
 replace d := d.base o.size
 replace b := zA b j
 refine zG (zr l (zr (S ((cutF s).2)) (zr (pt z 3) (wJ z 3 l [(I6 no), (U8 0), (S []), (.slice none 0 0), (S [])] [(I6 no), (U8 0), (S []), l, (S [])] 90 zk zk d.one zk b zi rfl ?_))))
 intro ch i
 replace d := d.wrote i (d.ne b zi)
 replace b := i.here
 refine zr (pt z 4) (z1 4 (S ((cutF s).2)) [(I6 no), (U8 0), (S []), l, (S ((cutF s).2))] b ?_)
 intro dc h
 replace d := d.wrote h (d.ne b zi)
 replace b := h.here
 refine nR (zG (zc (c_strings_Cut s ([35] : List UInt8) _ (by rfl) zo) ?_))
 rintro _ cx ⟨rfl, f⟩
 have := wB s ([35] : List UInt8)
 refine zG (zr (S ((Lib.cut s ([35] : List UInt8)).1)) (zr (S ((Lib.cut s ([35] : List UInt8)).2.1)) (zr (.bool ((Lib.cut s ([35] : List UInt8)).2.2)) (zX ((Lib.cut s ([35] : List UInt8)).2.2) ?_ ?_))))
 ·intro c2
  refine zH (zH (zH (nR (zG (zc (wM ((Lib.cut s ([35] : List UInt8)).1) _ zo) ?_)))))
  rintro _ cq ⟨rfl, q⟩
  have := trm_len ((Lib.cut s ([35] : List UInt8)).1)
  refine zH (nW (yI (wR (zG (zc (xH (trmF ((Lib.cut s ([35] : List UInt8)).1)) ([64] : List UInt8) _ ) ?_)))))
  rintro _ cn ⟨rfl, p⟩
  refine zX (hpB (trmF ((Lib.cut s ([35] : List UInt8)).1)) ([64] : List UInt8)) ?_ ?_
  ·intro bn
   have := hp_len bn; simp only [List.length_cons, List.length_nil] at this
   refine zH (nQ (zT (wR (zG (L_ssfrom (trmF ((Lib.cut s ([35] : List UInt8)).1)) 1 underlying9 zk ⟨.i64, zk⟩ zo (zc (c_strings_Cut (List.drop 1 (trmF ((Lib.cut s ([35] : List UInt8)).1))) ([58] : List UInt8) _ (by rfl) (by (simp only [List.length_drop, List.length_take] at *; omega))) ?_))))))
   rintro _ c4 ⟨rfl, af⟩
   have := wB (List.drop 1 (trmF ((Lib.cut s ([35] : List UInt8)).1))) ([58] : List UInt8)
   refine zG (zr (S ((Lib.cut (List.drop 1 (trmF ((Lib.cut s ([35] : List UInt8)).1))) ([58] : List UInt8)).1)) (zr (S ((Lib.cut (List.drop 1 (trmF ((Lib.cut s ([35] : List UInt8)).1))) ([58] : List UInt8)).2.1)) (zr (.bool ((Lib.cut (List.drop 1 (trmF ((Lib.cut s ([35] : List UInt8)).1))) ([58] : List UInt8)).2.2)) (zX ((Lib.cut (List.drop 1 (trmF ((Lib.cut s ([35] : List UInt8)).1))) ([58] : List UInt8)).2.2) ?_ ?_))))
   ·intro cr
    refine zH (zH (zH (nW (wR (zG (wX true (zG (zw (zG (zw (zc (c_lines_named ((Lib.cut (List.drop 1 (trmF ((Lib.cut s ([35] : List UInt8)).1))) ([58] : List UInt8)).1) _ (by (simp only [List.length_drop, List.length_take] at *; omega))) ?_)))))))))))
    rintro _ ci ⟨rfl, aq⟩
    refine zX (nameF ((Lib.cut (List.drop 1 (trmF ((Lib.cut s ([35] : List UInt8)).1))) ([58] : List UInt8)).1)) ?_ ?_
    ·intro cg
     refine zw (wX true (xC (nQ (zF (zQ (zB (zW (zG (zG (zc (c_lines_fields ((Lib.cut (List.drop 1 (trmF ((Lib.cut s ([35] : List UInt8)).1))) ([58] : List UInt8)).2.1) _ (by (simp only [List.length_drop, List.length_take] at *; omega))) ?_))))))))))
     rintro au c7 ⟨_, rfl, m, a9⟩
     replace o := (((((((o.tr j).trans (i.below e)).trans (h.below e)).tr f).tr q).tr p).tr af).tr aq
     replace m := m.base o.size
     replace b := zA (zA (zA (zA (zA (zA b f) q) p) af) aq) a9
     refine zr (pt z 1) (z1 1 (U8 2) [(I6 no), (U8 2), (S []), l, (S ((cutF s).2))] b ?_)
     intro dg a1
     replace m := m.wrote a1 (m.ne b zi)
     replace b := a1.here
     refine zr (pt z 2) (z1 2 (S ((Lib.cut (List.drop 1 (trmF ((Lib.cut s ([35] : List UInt8)).1))) ([58] : List UInt8)).1)) [(I6 no), (U8 2), (S ((Lib.cut (List.drop 1 (trmF ((Lib.cut s ([35] : List UInt8)).1))) ([58] : List UInt8)).1)), l, (S ((cutF s).2))] b ?_)
     intro cm a6
     replace m := m.wrote a6 (m.ne b zi)
     replace b := a6.here
     refine zr (pt z 3) (wJ z 3 au [(I6 no), (U8 2), (S ((Lib.cut (List.drop 1 (trmF ((Lib.cut s ([35] : List UInt8)).1))) ([58] : List UInt8)).1)), l, (S ((cutF s).2))] [(I6 no), (U8 2), (S ((Lib.cut (List.drop 1 (trmF ((Lib.cut s ([35] : List UInt8)).1))) ([58] : List UInt8)).1)), au, (S ((cutF s).2))] 90 zk zk m.one zk b zi rfl ?_)
     intro dj a4
     replace m := m.wrote a4 (m.ne b zi)
     replace b := a4.here
     replace c := zD (zD (zD (zA (zA (zA (zA (zA (zA (zD (zD (zA (zD (zA c u.below) y a) j) i a) h a) f) q) p) af) aq) a9) a1 a) a6 a) a4 a
     refine zU (zL (zB (wR (zOW b (wH b1 0 [(I6 no), (U8 2), (S ((Lib.cut (List.drop 1 (trmF ((Lib.cut s ([35] : List UInt8)).1))) ([58] : List UInt8)).1)), au, (S ((cutF s).2))] [(I6 0), (U8 0), (S []), (.slice none 0 0), (S [])] [(I6 no), (U8 2), (S ((Lib.cut (List.drop 1 (trmF ((Lib.cut s ([35] : List UInt8)).1))) ([58] : List UInt8)).1)), au, (S ((cutF s).2))] 90 zk zk (xL rfl (xL rfl (xL rfl (xL m.one (xL rfl rfl))))) zk c zk rfl ?_)))))
     intro c3 bb
     replace m := m.wrote bb (m.ne c zi)
     replace c := bb.here
     refine zH (nQ (zS (xA [.cell 4 90, .tmp 5] [(Value.agg #[(I6 no), (U8 2), (S ((Lib.cut (List.drop 1 (trmF ((Lib.cut s ([35] : List UInt8)).1))) ([58] : List UInt8)).1)), au, (S ((cutF s).2))]), (I6 0)] rfl rfl ⟨⟨⟨b1, 0, none⟩, zk, yV [(I6 no), (U8 2), (S ((Lib.cut (List.drop 1 (trmF ((Lib.cut s ([35] : List UInt8)).1))) ([58] : List UInt8)).1)), au, (S ((cutF s).2))] zk zk (yS c)⟩, zk, trivial⟩ ?_)))
     replace o := ((((o.tr a9).trans (a1.below e)).trans (a6.below e)).trans (a4.below e)).trans (bb.below aa)
     exact ⟨au, xM (by (rw [scan_order za za za za]; try rfl; done)) (e6 (by (rw [scan_order za za za za]; try rfl; done))), m.cast (by (rw [scan_order za za za za]; try rfl; done)), o⟩
    intro dk
    replace c := zA (zA (zA (zA (zA (zD (zD (zA (zD (zA c u.below) y a) j) i a) h a) f) q) p) af) aq
    refine zw (wX false (xC (nQ (zT (wR (zr (Value.agg #[(I6 0), (U8 0), (S []), (.slice none 0 0), (S [])]) (wN [(I6 0), (U8 0), (S []), (.slice none 0 0), (S [])] c ?_)))))))
    intro cw bj
    replace c := bj.here
    refine zH (nQ (zS (zE (zK (zE (xA [.cell 4 90, .tmp 5] [(Value.agg #[(I6 0), (U8 0), (S []), (.slice none 0 0), (S [])]), (I6 33)] rfl rfl ⟨⟨⟨b1, 0, none⟩, zk, yV [(I6 0), (U8 0), (S []), (.slice none 0 0), (S [])] zk zk (yS c)⟩, zk, trivial⟩ ?_))))))
    replace o := ((((((((o.tr j).trans (i.below e)).trans (h.below e)).tr f).tr q).tr p).tr af).tr aq).trans (bj.below aa)
    exact ⟨(.slice none 0 0), xM (by (rw [xD za za (.inr za)]; try rfl; done)) (e6 (by (rw [xD za za (.inr za)]; try rfl; done))), (Row.nil _ _ _ _ _).cast (by (rw [xD za za (.inr za)]; try rfl; done)), o⟩
   intro dh
   replace c := zA (zA (zA (zA (zD (zD (zA (zD (zA c u.below) y a) j) i a) h a) f) q) p) af
   refine zH (zH (zH (nW (wR (zG (wX false (zG (zs (zs (zs (xE (nQ (zT (wR (zr (Value.agg #[(I6 0), (U8 0), (S []), (.slice none 0 0), (S [])]) (wN [(I6 0), (U8 0), (S []), (.slice none 0 0), (S [])] c ?_))))))))))))))))
   intro co bi
   replace c := bi.here
   refine zH (nQ (zS (zE (zK (zE (xA [.cell 4 90, .tmp 5] [(Value.agg #[(I6 0), (U8 0), (S []), (.slice none 0 0), (S [])]), (I6 33)] rfl rfl ⟨⟨⟨b1, 0, none⟩, zk, yV [(I6 0), (U8 0), (S []), (.slice none 0 0), (S [])] zk zk (yS c)⟩, zk, trivial⟩ ?_))))))
   replace o := (((((((o.tr j).trans (i.below e)).trans (h.below e)).tr f).tr q).tr p).tr af).trans (bi.below aa)
   exact ⟨(.slice none 0 0), xM (by (rw [xD za za (.inl za)]; try rfl; done)) (e6 (by (rw [xD za za (.inl za)]; try rfl; done))), (Row.nil _ _ _ _ _).cast (by (rw [xD za za (.inl za)]; try rfl; done)), o⟩
  intro db
  refine zH (nQ (zF (wR (zG (L_sne (trmF ((Lib.cut s ([35] : List UInt8)).1)) ([] : List UInt8) rfl zk zk ?_ ?_)))))
  ·intro cy
   replace b := zA (zA (zA b f) q) p
   refine zH (nQ (zT (zW (zr (pt z 1) (z1 1 (U8 1) [(I6 no), (U8 1), (S []), l, (S ((cutF s).2))] b ?_)))))
   intro ck a5
   replace d := ((d.below f).below q).below p
   replace d := d.wrote a5 (d.ne b zi)
   replace b := a5.here
   replace c := zD (zA (zA (zA (zD (zD (zA (zD (zA c u.below) y a) j) i a) h a) f) q) p) a5 a
   refine zU (zL (zB (wR (zOW b (wH b1 0 [(I6 no), (U8 1), (S []), l, (S ((cutF s).2))] [(I6 0), (U8 0), (S []), (.slice none 0 0), (S [])] [(I6 no), (U8 1), (S []), l, (S ((cutF s).2))] 90 zk zk (xL rfl (xL rfl (xL rfl (xL d.one (xL rfl rfl))))) zk c zk rfl ?_)))))
   intro c6 ba
   replace d := d.wrote ba (d.ne c zi)
   replace c := ba.here
   refine zH (nQ (zS (xA [.cell 4 90, .tmp 5] [(Value.agg #[(I6 no), (U8 1), (S []), l, (S ((cutF s).2))]), (I6 0)] rfl rfl ⟨⟨⟨b1, 0, none⟩, zk, yV [(I6 no), (U8 1), (S []), l, (S ((cutF s).2))] zk zk (yS c)⟩, zk, trivial⟩ ?_)))
   replace o := (((((((o.tr j).trans (i.below e)).trans (h.below e)).tr f).tr q).tr p).trans (a5.below e)).trans (ba.below aa)
   exact ⟨l, xM (by (rw [scan_data za za za]; try rfl; done)) (e6 (by (rw [scan_data za za za]; try rfl; done))), d.cast (by (rw [scan_data za za za]; try rfl; done)), o⟩
  intro c0
  replace b := zA (zA (zA b f) q) p
  refine zH (nQ (zF (wR (zFO 4 b rfl (zc (xH ((cutF s).2) ([64, 109, 105, 115, 115, 105, 110, 103, 58] : List UInt8) _ ) ?_)))))
  rintro _ cv ⟨rfl, ag⟩
  refine zX (hpB ((cutF s).2) ([64, 109, 105, 115, 115, 105, 110, 103, 58] : List UInt8)) ?_ ?_
  ·intro bm
   have := hp_len bm; simp only [List.length_cons, List.length_nil] at this
   replace b := zA b ag
   refine zH (nQ (zT (wR (zr (pt z 1) (z1 1 (U8 3) [(I6 no), (U8 3), (S []), l, (S ((cutF s).2))] b ?_)))))
   intro cu a7
   replace b := a7.here
   refine nQ (zW (zFO 4 b rfl (L_ssfrom ((cutF s).2) 9 underlying9 zk ⟨.i64, zk⟩ zo (zc (c_lines_Cut (List.drop 9 ((cutF s).2)) _ (by (simp only [List.length_drop, List.length_take] at *; omega))) ?_))))
   rintro _ cj ⟨ap, rfl, n, a8⟩
   replace o := (((((((o.tr j).trans (i.below e)).trans (h.below e)).tr f).tr q).tr p).tr ag).trans (a7.below e)
   replace n := n.base o.size
   replace b := zA b a8
   refine zG (zr ap (zr (S ((cutF (List.drop 9 ((cutF s).2))).2)) (zr (pt z 3) (wJ z 3 ap [(I6 no), (U8 3), (S []), l, (S ((cutF s).2))] [(I6 no), (U8 3), (S []), ap, (S ((cutF s).2))] 90 zk zk n.one zk b zi rfl ?_))))
   intro di a3
   replace n := n.wrote a3 (n.ne b zi)
   replace b := a3.here
   refine zr (pt z 4) (z1 4 (S ((cutF (List.drop 9 ((cutF s).2))).2)) [(I6 no), (U8 3), (S []), ap, (S ((cutF (List.drop 9 ((cutF s).2))).2))] b ?_)
   intro cl a2
   replace n := n.wrote a2 (n.ne b zi)
   replace b := a2.here
   replace c := zD (zD (zA (zD (zA (zA (zA (zA (zD (zD (zA (zD (zA c u.below) y a) j) i a) h a) f) q) p) ag) a7 a) a8) a3 a) a2 a
   refine zU (zL (zB (wR (zOW b (wH b1 0 [(I6 no), (U8 3), (S []), ap, (S ((cutF (List.drop 9 ((cutF s).2))).2))] [(I6 0), (U8 0), (S []), (.slice none 0 0), (S [])] [(I6 no), (U8 3), (S []), ap, (S ((cutF (List.drop 9 ((cutF s).2))).2))] 90 zk zk (xL rfl (xL rfl (xL rfl (xL n.one (xL rfl rfl))))) zk c zk rfl ?_)))))
   intro c1 bd
   replace n := n.wrote bd (n.ne c zi)
   replace c := bd.here
   refine zH (nQ (zS (xA [.cell 4 90, .tmp 5] [(Value.agg #[(I6 no), (U8 3), (S []), ap, (S ((cutF (List.drop 9 ((cutF s).2))).2))]), (I6 0)] rfl rfl ⟨⟨⟨b1, 0, none⟩, zk, yV [(I6 no), (U8 3), (S []), ap, (S ((cutF (List.drop 9 ((cutF s).2))).2))] zk zk (yS c)⟩, zk, trivial⟩ ?_)))
   replace o := (((o.tr a8).trans (a3.below e)).trans (a2.below e)).trans (bd.below aa)
   exact ⟨ap, xM (by (rw [scan_miss za za za]; try rfl; done)) (e6 (by (rw [scan_miss za za za]; try rfl; done))), n.cast (by (rw [scan_miss za za za]; try rfl; done)), o⟩
  intro cf
  replace c := zA (zA (zA (zA (zD (zD (zA (zD (zA c u.below) y a) j) i a) h a) f) q) p) ag
  replace b := zA b ag
  replace d := (((d.below f).below q).below p).below ag
  refine zH (nQ (zF (zQ (zL (zB (wR (zOW b (wH b1 0 [(I6 no), (U8 0), (S []), l, (S ((cutF s).2))] [(I6 0), (U8 0), (S []), (.slice none 0 0), (S [])] [(I6 no), (U8 0), (S []), l, (S ((cutF s).2))] 90 zk zk (xL rfl (xL rfl (xL rfl (xL d.one (xL rfl rfl))))) zk c zk rfl ?_))))))))
  intro ce bf
  replace d := d.wrote bf (d.ne c zi)
  replace c := bf.here
  refine zH (nQ (zS (xA [.cell 4 90, .tmp 5] [(Value.agg #[(I6 no), (U8 0), (S []), l, (S ((cutF s).2))]), (I6 0)] rfl rfl ⟨⟨⟨b1, 0, none⟩, zk, yV [(I6 no), (U8 0), (S []), l, (S ((cutF s).2))] zk zk (yS c)⟩, zk, trivial⟩ ?_)))
  replace o := (((((((o.tr j).trans (i.below e)).trans (h.below e)).tr f).tr q).tr p).tr ag).trans (bf.below aa)
  exact ⟨l, xM (by (rw [scan_blank za za za]; try rfl; done)) (e6 (by (rw [scan_blank za za za]; try rfl; done))), d.cast (by (rw [scan_blank za za za]; try rfl; done)), o⟩
 intro ct
 refine zH (zH (zH (nR (zG (zc (wM ((Lib.cut s ([35] : List UInt8)).1) _ zo) ?_)))))
 rintro _ de ⟨rfl, t⟩
 have := trm_len ((Lib.cut s ([35] : List UInt8)).1)
 refine zH (nW (yI (wR (zG (zc (xH (trmF ((Lib.cut s ([35] : List UInt8)).1)) ([64] : List UInt8) _ ) ?_)))))
 rintro _ da ⟨rfl, r⟩
 refine zX (hpB (trmF ((Lib.cut s ([35] : List UInt8)).1)) ([64] : List UInt8)) ?_ ?_
 ·intro bo
  have := hp_len bo; simp only [List.length_cons, List.length_nil] at this
  refine zH (nQ (zT (wR (zG (L_ssfrom (trmF ((Lib.cut s ([35] : List UInt8)).1)) 1 underlying9 zk ⟨.i64, zk⟩ zo (zc (c_strings_Cut (List.drop 1 (trmF ((Lib.cut s ([35] : List UInt8)).1))) ([58] : List UInt8) _ (by rfl) (by (simp only [List.length_drop, List.length_take] at *; omega))) ?_))))))
  rintro _ cz ⟨rfl, ae⟩
  have := wB (List.drop 1 (trmF ((Lib.cut s ([35] : List UInt8)).1))) ([58] : List UInt8)
  refine zG (zr (S ((Lib.cut (List.drop 1 (trmF ((Lib.cut s ([35] : List UInt8)).1))) ([58] : List UInt8)).1)) (zr (S ((Lib.cut (List.drop 1 (trmF ((Lib.cut s ([35] : List UInt8)).1))) ([58] : List UInt8)).2.1)) (zr (.bool ((Lib.cut (List.drop 1 (trmF ((Lib.cut s ([35] : List UInt8)).1))) ([58] : List UInt8)).2.2)) (zX ((Lib.cut (List.drop 1 (trmF ((Lib.cut s ([35] : List UInt8)).1))) ([58] : List UInt8)).2.2) ?_ ?_))))
  ·intro c8
   refine zH (zH (zH (nW (wR (zG (wX true (zG (zw (zG (zw (zc (c_lines_named ((Lib.cut (List.drop 1 (trmF ((Lib.cut s ([35] : List UInt8)).1))) ([58] : List UInt8)).1) _ (by (simp only [List.length_drop, List.length_take] at *; omega))) ?_)))))))))))
   rintro _ df ⟨rfl, ad⟩
   refine zX (nameF ((Lib.cut (List.drop 1 (trmF ((Lib.cut s ([35] : List UInt8)).1))) ([58] : List UInt8)).1)) ?_ ?_
   ·intro cd
    refine zw (wX true (xC (nQ (zF (zQ (zB (zW (zG (zG (zc (c_lines_fields ((Lib.cut (List.drop 1 (trmF ((Lib.cut s ([35] : List UInt8)).1))) ([58] : List UInt8)).2.1) _ (by (simp only [List.length_drop, List.length_take] at *; omega))) ?_))))))))))
    rintro ah bz ⟨_, rfl, g, ay⟩
    replace o := (((((((o.tr j).trans (i.below e)).trans (h.below e)).tr f).tr t).tr r).tr ae).tr ad
    replace g := g.base o.size
    replace b := zA (zA (zA (zA (zA (zA b f) t) r) ae) ad) ay
    refine zr (pt z 1) (z1 1 (U8 2) [(I6 no), (U8 2), (S []), l, (S ((cutF s).2))] b ?_)
    intro bv am
    replace g := g.wrote am (g.ne b zi)
    replace b := am.here
    refine zr (pt z 2) (z1 2 (S ((Lib.cut (List.drop 1 (trmF ((Lib.cut s ([35] : List UInt8)).1))) ([58] : List UInt8)).1)) [(I6 no), (U8 2), (S ((Lib.cut (List.drop 1 (trmF ((Lib.cut s ([35] : List UInt8)).1))) ([58] : List UInt8)).1)), l, (S ((cutF s).2))] b ?_)
    intro ca ak
    replace g := g.wrote ak (g.ne b zi)
    replace b := ak.here
    refine zr (pt z 3) (wJ z 3 ah [(I6 no), (U8 2), (S ((Lib.cut (List.drop 1 (trmF ((Lib.cut s ([35] : List UInt8)).1))) ([58] : List UInt8)).1)), l, (S ((cutF s).2))] [(I6 no), (U8 2), (S ((Lib.cut (List.drop 1 (trmF ((Lib.cut s ([35] : List UInt8)).1))) ([58] : List UInt8)).1)), ah, (S ((cutF s).2))] 90 zk zk g.one zk b zi rfl ?_)
    intro b0 aj
    replace g := g.wrote aj (g.ne b zi)
    replace b := aj.here
    replace c := zD (zD (zD (zA (zA (zA (zA (zA (zA (zD (zD (zA (zD (zA c u.below) y a) j) i a) h a) f) t) r) ae) ad) ay) am a) ak a) aj a
    refine zU (zL (zB (wR (zOW b (wH b1 0 [(I6 no), (U8 2), (S ((Lib.cut (List.drop 1 (trmF ((Lib.cut s ([35] : List UInt8)).1))) ([58] : List UInt8)).1)), ah, (S ((cutF s).2))] [(I6 0), (U8 0), (S []), (.slice none 0 0), (S [])] [(I6 no), (U8 2), (S ((Lib.cut (List.drop 1 (trmF ((Lib.cut s ([35] : List UInt8)).1))) ([58] : List UInt8)).1)), ah, (S ((cutF s).2))] 90 zk zk (xL rfl (xL rfl (xL rfl (xL g.one (xL rfl rfl))))) zk c zk rfl ?_)))))
    intro b9 a0
    replace g := g.wrote a0 (g.ne c zi)
    replace c := a0.here
    refine zH (nQ (zS (xA [.cell 4 90, .tmp 5] [(Value.agg #[(I6 no), (U8 2), (S ((Lib.cut (List.drop 1 (trmF ((Lib.cut s ([35] : List UInt8)).1))) ([58] : List UInt8)).1)), ah, (S ((cutF s).2))]), (I6 0)] rfl rfl ⟨⟨⟨b1, 0, none⟩, zk, yV [(I6 no), (U8 2), (S ((Lib.cut (List.drop 1 (trmF ((Lib.cut s ([35] : List UInt8)).1))) ([58] : List UInt8)).1)), ah, (S ((cutF s).2))] zk zk (yS c)⟩, zk, trivial⟩ ?_)))
    replace o := ((((o.tr ay).trans (am.below e)).trans (ak.below e)).trans (aj.below e)).trans (a0.below aa)
    exact ⟨ah, xM (by (rw [scan_order za za za za]; try rfl; done)) (e6 (by (rw [scan_order za za za za]; try rfl; done))), g.cast (by (rw [scan_order za za za za]; try rfl; done)), o⟩
   intro b2
   replace c := zA (zA (zA (zA (zA (zD (zD (zA (zD (zA c u.below) y a) j) i a) h a) f) t) r) ae) ad
   refine zw (wX false (xC (nQ (zT (wR (zr (Value.agg #[(I6 0), (U8 0), (S []), (.slice none 0 0), (S [])]) (wN [(I6 0), (U8 0), (S []), (.slice none 0 0), (S [])] c ?_)))))))
   intro br be
   replace c := be.here
   refine zH (nQ (zS (zE (zK (zE (xA [.cell 4 90, .tmp 5] [(Value.agg #[(I6 0), (U8 0), (S []), (.slice none 0 0), (S [])]), (I6 33)] rfl rfl ⟨⟨⟨b1, 0, none⟩, zk, yV [(I6 0), (U8 0), (S []), (.slice none 0 0), (S [])] zk zk (yS c)⟩, zk, trivial⟩ ?_))))))
   replace o := ((((((((o.tr j).trans (i.below e)).trans (h.below e)).tr f).tr t).tr r).tr ae).tr ad).trans (be.below aa)
   exact ⟨(.slice none 0 0), xM (by (rw [xD za za (.inr za)]; try rfl; done)) (e6 (by (rw [xD za za (.inr za)]; try rfl; done))), (Row.nil _ _ _ _ _).cast (by (rw [xD za za (.inr za)]; try rfl; done)), o⟩
  intro b5
  replace c := zA (zA (zA (zA (zD (zD (zA (zD (zA c u.below) y a) j) i a) h a) f) t) r) ae
  refine zH (zH (zH (nW (wR (zG (wX false (zG (zs (zs (zs (xE (nQ (zT (wR (zr (Value.agg #[(I6 0), (U8 0), (S []), (.slice none 0 0), (S [])]) (wN [(I6 0), (U8 0), (S []), (.slice none 0 0), (S [])] c ?_))))))))))))))))
  intro bs bc
  replace c := bc.here
  refine zH (nQ (zS (zE (zK (zE (xA [.cell 4 90, .tmp 5] [(Value.agg #[(I6 0), (U8 0), (S []), (.slice none 0 0), (S [])]), (I6 33)] rfl rfl ⟨⟨⟨b1, 0, none⟩, zk, yV [(I6 0), (U8 0), (S []), (.slice none 0 0), (S [])] zk zk (yS c)⟩, zk, trivial⟩ ?_))))))
  replace o := (((((((o.tr j).trans (i.below e)).trans (h.below e)).tr f).tr t).tr r).tr ae).trans (bc.below aa)
  exact ⟨(.slice none 0 0), xM (by (rw [xD za za (.inl za)]; try rfl; done)) (e6 (by (rw [xD za za (.inl za)]; try rfl; done))), (Row.nil _ _ _ _ _).cast (by (rw [xD za za (.inl za)]; try rfl; done)), o⟩
 intro b8
 refine zH (nQ (zF (wR (zG (L_sne (trmF ((Lib.cut s ([35] : List UInt8)).1)) ([] : List UInt8) rfl zk zk ?_ ?_)))))
 ·intro b7
  replace b := zA (zA (zA b f) t) r
  refine zH (nQ (zT (zW (zr (pt z 1) (z1 1 (U8 1) [(I6 no), (U8 1), (S []), l, (S ((cutF s).2))] b ?_)))))
  intro bu ao
  replace d := ((d.below f).below t).below r
  replace d := d.wrote ao (d.ne b zi)
  replace b := ao.here
  replace c := zD (zA (zA (zA (zD (zD (zA (zD (zA c u.below) y a) j) i a) h a) f) t) r) ao a
  refine zU (zL (zB (wR (zOW b (wH b1 0 [(I6 no), (U8 1), (S []), l, (S ((cutF s).2))] [(I6 0), (U8 0), (S []), (.slice none 0 0), (S [])] [(I6 no), (U8 1), (S []), l, (S ((cutF s).2))] 90 zk zk (xL rfl (xL rfl (xL rfl (xL d.one (xL rfl rfl))))) zk c zk rfl ?_)))))
  intro bw az
  replace d := d.wrote az (d.ne c zi)
  replace c := az.here
  refine zH (nQ (zS (xA [.cell 4 90, .tmp 5] [(Value.agg #[(I6 no), (U8 1), (S []), l, (S ((cutF s).2))]), (I6 0)] rfl rfl ⟨⟨⟨b1, 0, none⟩, zk, yV [(I6 no), (U8 1), (S []), l, (S ((cutF s).2))] zk zk (yS c)⟩, zk, trivial⟩ ?_)))
  replace o := (((((((o.tr j).trans (i.below e)).trans (h.below e)).tr f).tr t).tr r).trans (ao.below e)).trans (az.below aa)
  exact ⟨l, xM (by (rw [scan_data za za za]; try rfl; done)) (e6 (by (rw [scan_data za za za]; try rfl; done))), d.cast (by (rw [scan_data za za za]; try rfl; done)), o⟩
 intro bq
 replace b := zA (zA (zA b f) t) r
 refine zH (nQ (zF (wR (zFO 4 b rfl (zc (xH ((cutF s).2) ([64, 109, 105, 115, 115, 105, 110, 103, 58] : List UInt8) _ ) ?_)))))
 rintro _ cc ⟨rfl, ab⟩
 refine zX (hpB ((cutF s).2) ([64, 109, 105, 115, 115, 105, 110, 103, 58] : List UInt8)) ?_ ?_
 ·intro bl
  have := hp_len bl; simp only [List.length_cons, List.length_nil] at this
  replace b := zA b ab
  refine zH (nQ (zT (wR (zr (pt z 1) (z1 1 (U8 3) [(I6 no), (U8 3), (S []), l, (S ((cutF s).2))] b ?_)))))
  intro bt ax
  replace b := ax.here
  refine nQ (zW (zFO 4 b rfl (L_ssfrom ((cutF s).2) 9 underlying9 zk ⟨.i64, zk⟩ zo (zc (c_lines_Cut (List.drop 9 ((cutF s).2)) _ (by (simp only [List.length_drop, List.length_take] at *; omega))) ?_))))
  rintro _ bx ⟨ac, rfl, k, aw⟩
  replace o := (((((((o.tr j).trans (i.below e)).trans (h.below e)).tr f).tr t).tr r).tr ab).trans (ax.below e)
  replace k := k.base o.size
  replace b := zA b aw
  refine zG (zr ac (zr (S ((cutF (List.drop 9 ((cutF s).2))).2)) (zr (pt z 3) (wJ z 3 ac [(I6 no), (U8 3), (S []), l, (S ((cutF s).2))] [(I6 no), (U8 3), (S []), ac, (S ((cutF s).2))] 90 zk zk k.one zk b zi rfl ?_))))
  intro cb an
  replace k := k.wrote an (k.ne b zi)
  replace b := an.here
  refine zr (pt z 4) (z1 4 (S ((cutF (List.drop 9 ((cutF s).2))).2)) [(I6 no), (U8 3), (S []), ac, (S ((cutF (List.drop 9 ((cutF s).2))).2))] b ?_)
  intro b6 al
  replace k := k.wrote al (k.ne b zi)
  replace b := al.here
  replace c := zD (zD (zA (zD (zA (zA (zA (zA (zD (zD (zA (zD (zA c u.below) y a) j) i a) h a) f) t) r) ab) ax a) aw) an a) al a
  refine zU (zL (zB (wR (zOW b (wH b1 0 [(I6 no), (U8 3), (S []), ac, (S ((cutF (List.drop 9 ((cutF s).2))).2))] [(I6 0), (U8 0), (S []), (.slice none 0 0), (S [])] [(I6 no), (U8 3), (S []), ac, (S ((cutF (List.drop 9 ((cutF s).2))).2))] 90 zk zk (xL rfl (xL rfl (xL rfl (xL k.one (xL rfl rfl))))) zk c zk rfl ?_)))))
  intro b3 av
  replace k := k.wrote av (k.ne c zi)
  replace c := av.here
  refine zH (nQ (zS (xA [.cell 4 90, .tmp 5] [(Value.agg #[(I6 no), (U8 3), (S []), ac, (S ((cutF (List.drop 9 ((cutF s).2))).2))]), (I6 0)] rfl rfl ⟨⟨⟨b1, 0, none⟩, zk, yV [(I6 no), (U8 3), (S []), ac, (S ((cutF (List.drop 9 ((cutF s).2))).2))] zk zk (yS c)⟩, zk, trivial⟩ ?_)))
  replace o := (((o.tr aw).trans (an.below e)).trans (al.below e)).trans (av.below aa)
  exact ⟨ac, xM (by (rw [scan_miss za za za]; try rfl; done)) (e6 (by (rw [scan_miss za za za]; try rfl; done))), k.cast (by (rw [scan_miss za za za]; try rfl; done)), o⟩
 intro bp
 replace c := zA (zA (zA (zA (zD (zD (zA (zD (zA c u.below) y a) j) i a) h a) f) t) r) ab
 replace b := zA b ab
 replace d := (((d.below f).below t).below r).below ab
 refine zH (nQ (zF (zQ (zL (zB (wR (zOW b (wH b1 0 [(I6 no), (U8 0), (S []), l, (S ((cutF s).2))] [(I6 0), (U8 0), (S []), (.slice none 0 0), (S [])] [(I6 no), (U8 0), (S []), l, (S ((cutF s).2))] 90 zk zk (xL rfl (xL rfl (xL rfl (xL d.one (xL rfl rfl))))) zk c zk rfl ?_))))))))
 intro b4 ar
 replace d := d.wrote ar (d.ne c zi)
 replace c := ar.here
 refine zH (nQ (zS (xA [.cell 4 90, .tmp 5] [(Value.agg #[(I6 no), (U8 0), (S []), l, (S ((cutF s).2))]), (I6 0)] rfl rfl ⟨⟨⟨b1, 0, none⟩, zk, yV [(I6 no), (U8 0), (S []), l, (S ((cutF s).2))] zk zk (yS c)⟩, zk, trivial⟩ ?_)))
 replace o := (((((((o.tr j).trans (i.below e)).trans (h.below e)).tr f).tr t).tr r).tr ab).trans (ar.below aa)
 exact ⟨l, xM (by (rw [scan_blank za za za]; try rfl; done)) (e6 (by (rw [scan_blank za za za]; try rfl; done))), d.cast (by (rw [scan_blank za za za]; try rfl; done)), o⟩
end Go.Proofs.YtddnhlobnembaaaGreatDoor
end

/- === Wlread === -/
section
/- Walks, written by my program walk.py out of the specification lread.py: each theorem says what one function returns and that it leaves memory as it was. -/
namespace Go.Proofs.YtddnhlobnembaaaGreatDoor
open Go Go.RowKit Go.FK
end Go.Proofs.YtddnhlobnembaaaGreatDoor
end

/- === Wccor === -/
section
/- Walks, written by my program walk.py out of the specification ccor.py: each theorem says what one function returns and that it leaves memory as it was. -/
namespace Go.Proofs.YtddnhlobnembaaaGreatDoor
open Go Go.RowKit Go.FK _root_.Go.Proofs.Tryz
set_option maxHeartbeats 4000000
set_option maxRecDepth 100000
def laysRev_ren : Go.Shelf.Ren := ⟨fun | 35 => 77 | n => n, fun | 22 => 97 | 23 => 5 | n => n, fun | n => n⟩
theorem laysRev : Go.Proofs.SlLaysE.n35 Tryz.prog laysRev_ren := {
 mixed := by kernel_rfl
 f35 := ⟨Tryz.f77.name, zk, func77.trans (congrArg some zk)⟩
 t0 := underlying0
 a0 := Tryz.isAgg0
 z0 := Tryz.sizeOf0
 v0 := Tryz.zeroValue0
 t3 := underlying3
 a3 := Tryz.isAgg3
 z3 := Tryz.sizeOf3
 v3 := Tryz.zeroValue3
 t4 := underlying4
 a4 := Tryz.isAgg4
 z4 := Tryz.sizeOf4
 v4 := Tryz.zeroValue4
 t22 := underlying97
 a22 := Tryz.isAgg97
 z22 := Tryz.sizeOf97
 v22 := Tryz.zeroValue97
 a23 := Tryz.isAgg5
 z23 := Tryz.sizeOf5 }
theorem el23 : Elem Tryz.prog 23 21 1 4 := ⟨underlying23, zk, rfl⟩
theorem el97 : Elem Tryz.prog 97 5 1 1 := ⟨underlying97, zk, rfl⟩
theorem c_words_Blank (r : Int) (w : World) :
  Calls Tryz.prog 147 #[(I3 r)] w (Ret fun v w' => v = (.bool (blankB r)) ∧ Below w.heap.size w w') := by
 refine wG 23 func147 rfl ?_
 have a := Below.refl w.heap.size w
 refine wR (zH (nW (wR (zG (nQ (yI (yF (wR (wC .i32 r 9 ?_ ?_)))))))))
 ·intro h1
  exact zH (nQ (zT (zQ (zB (zT (wR (zH (nQ (zS (zK (zE (yC [(.bool true)] ⟨eb (by simp only [blankB]; simp [*] <;> omega), a⟩))))))))))))
 intro h2
 refine zH (nQ (zF (wR (wC .i32 r 11 ?_ ?_))))
 ·intro h3
  exact zH (nQ (zT (zQ (zB (zT (wR (zH (nQ (zS (zK (zE (yC [(.bool true)] ⟨eb (by simp only [blankB]; simp [*] <;> omega), a⟩))))))))))))
 intro h4
 refine zH (nQ (zF (wR (wC .i32 r 12 ?_ ?_))))
 ·intro h5
  exact zH (nQ (zT (zQ (zB (zT (wR (zH (nQ (zS (zK (zE (yC [(.bool true)] ⟨eb (by simp only [blankB]; simp [*] <;> omega), a⟩))))))))))))
 intro h6
 refine zH (nQ (zF (wR (wC .i32 r 32 ?_ ?_))))
 ·intro y
  exact zH (nQ (zT (zQ (zB (zT (wR (zH (nQ (zS (zK (zE (yC [(.bool true)] ⟨eb (by simp only [blankB]; simp [*] <;> omega), a⟩))))))))))))
 intro h8
 refine zH (nQ (zF (wR (wC .i32 r 133 ?_ ?_))))
 ·intro z
  exact zH (nQ (zT (zQ (zB (zT (wR (zH (nQ (zS (zK (zE (yC [(.bool true)] ⟨eb (by simp only [blankB]; simp [*] <;> omega), a⟩))))))))))))
 intro t
 refine zH (nQ (zF (wR (wC .i32 r 160 ?_ ?_))))
 ·intro u
  exact zH (nQ (zT (zQ (zB (zT (wR (zH (nQ (zS (zK (zE (yC [(.bool true)] ⟨eb (by simp only [blankB]; simp [*] <;> omega), a⟩))))))))))))
 intro i
 refine zH (nQ (zF (wR (wC .i32 r 5760 ?_ ?_))))
 ·intro n
  exact zH (nQ (zT (zQ (zB (zT (wR (zH (nQ (zS (zK (zE (yC [(.bool true)] ⟨eb (by simp only [blankB]; simp [*] <;> omega), a⟩))))))))))))
 intro s
 refine zH (nQ (zF (wR (wC .i32 r 8232 ?_ ?_))))
 ·intro b
  exact zH (nQ (zT (zQ (zB (zT (wR (zH (nQ (zS (zK (zE (yC [(.bool true)] ⟨eb (by simp only [blankB]; simp [*] <;> omega), a⟩))))))))))))
 intro l
 refine zH (nQ (zF (wR (wC .i32 r 8233 ?_ ?_))))
 ·intro k
  exact zH (nQ (zT (zQ (zB (zT (wR (zH (nQ (zS (zK (zE (yC [(.bool true)] ⟨eb (by simp only [blankB]; simp [*] <;> omega), a⟩))))))))))))
 intro h
 refine zH (nQ (zF (wR (wC .i32 r 8239 ?_ ?_))))
 ·intro c
  exact zH (nQ (zT (zQ (zB (zT (wR (zH (nQ (zS (zK (zE (yC [(.bool true)] ⟨eb (by simp only [blankB]; simp [*] <;> omega), a⟩))))))))))))
 intro j
 refine zH (nQ (zF (wR (wC .i32 r 8287 ?_ ?_))))
 ·intro g
  exact zH (nQ (zT (zQ (zB (zT (wR (zH (nQ (zS (zK (zE (yC [(.bool true)] ⟨eb (by simp only [blankB]; simp [*] <;> omega), a⟩))))))))))))
 intro e
 refine zH (nQ (zF (zW (wC .i32 r 12288 ?_ ?_))))
 ·intro o
  exact zH (nQ (zT (wR (zH (nQ (zS (zK (zE (yC [(.bool true)] ⟨eb (by simp only [blankB]; simp [*] <;> omega), a⟩)))))))))
 intro m
 refine zH (nQ (zF (zQ (zL (zB (wR (zG (zGe .i32 r 8192 ?_ ?_))))))))
 ·intro q
  refine zG (zw (zG (zw (zLe .i32 r 8202 ?_ ?_))))
  ·intro f
   exact xE (zH (nQ (zS (yC [(.bool true)] ⟨eb (by simp only [blankB]; simp [*] <;> omega), a⟩))))
  intro p
  exact xE (zH (nQ (zS (yC [(.bool false)] ⟨eb (by simp only [blankB]; simp [*] <;> omega), a⟩))))
 intro d
 exact zG (zs (zs (xC (zH (nQ (zS (yC [(.bool false)] ⟨eb (by simp only [blankB]; simp [*] <;> omega), a⟩)))))))
theorem c_utf_Encode (a : Value) (l : List (Int)) (w : World) (b : Rd w encI32 a l) :
  Calls Tryz.prog 148 #[a] w (Ret fun v w' => v = (S (encL l)) ∧ Below w.heap.size w w') := by
 refine wG 5 func148 rfl ?_
 have c := Below.refl w.heap.size w
 exact wR (zH (nR (zG (L_runesStr a l underlying23 underlying21 underlying9 zk b (zH (nQ (zS (yC [(S (encL l))] ⟨congrArg S (by first | rfl | (simp_all; done) | omega), c⟩))))))))
theorem c_words_Loose (s : List UInt8) (w : World) (hs : s.length ≤ 1073741824) :
  Calls Tryz.prog 124 #[(S s)] w (Ret fun v w' => v = (S (looseS s)) ∧ Below w.heap.size w w') := by
 refine wG 35 func124 rfl ?_
 have h := Below.refl w.heap.size w
 refine wR (zH (nR (zH (nW (wR (zG (L_range s underlying9 zk ?_)))))))
 intro b1 w2 u
 have j := u.ge h.size
 have a := u.here
 refine nQ (yI ?_)
 replace h := h.tr u.below
 refine xN (fun m s0 w0 => ∃ (pos : Nat) (i : List Int) (k : Value), (m = s.length - pos) ∧ (s0.ds = []) ∧ ([2, 7, 3].map s0.f = [(S []), (pt b1 0), k]) ∧ (Row w0 w.heap.size 21 1 encI32 k i) ∧ (w0.heap[b1]? = some (.stringIter ⟨(s).toArray⟩ pos)) ∧ (Below w.heap.size w w0) ∧ (pos ≤ s.length) ∧ (i.length ≤ pos) ∧ (i ++ looseL (runesFrom s pos) = looseL (runesFrom s 0))) _ ⟨0, [], (.slice none 0 0), rfl, zk, zk, Row.nil _ _ _ _ _, a, h, by omega, by simp, by simp⟩ ?_
 rintro m4 s5 w6 ⟨pos, i, k, hm, n, ai, c, a, h, i1, i2, t⟩
 refine xK ai (wR ?_)
 rcases Nat.lt_or_ge pos (s).length with g | o
 ·refine L_next s b1 pos zk a g ?_
  intro b w7 d l
  replace c := c.wrote l (c.ne a zi)
  replace a := l.here
  have := dec_pos s pos; have := dec_fits s pos g; have := dec_le s pos
  have y : 0 ≤ b := by omega
  have ad : b ≤ 2147483647 := by omega
  refine zr (.bool true) (nW (zT (zQ (zB (yI (wR (zr (I3 b) (zH (nW (wR (zG (zc (c_words_Blank b _ ) ?_))))))))))))
  rintro _ w9 ⟨rfl, e⟩
  refine zX (blankB b) ?_ ?_
  ·intro au
   refine zG (zs (zs (xE (zG (zs (zs (xE (nQ (zT (xG (yD (yQ ?_))))))))))))
   replace h := (h.trans (l.below j)).tr e
   replace a := zA a e
   replace c := c.below e
   refine zB ⟨_, zo, (pos + (dec s pos).2), i, k, rfl, n, zk, c, a, h, zo, ?_, ?_⟩
   ·(try simp only [List.length_append, List.length_cons, List.length_nil]); omega
   rw [← t, xU g, ← d, wU]; clear d; simp [dropW, *]; try (unfold lowerI; split <;> omega)
  intro ay
  refine zG (zw (zG (zw (wC .i32 b 95 ?_ ?_))))
  ·intro a0
   refine xC (zG (zs (zs (xE (nQ (zT (xG (yD (yQ ?_)))))))))
   replace h := (h.trans (l.below j)).tr e
   replace a := zA a e
   replace c := c.below e
   refine zB ⟨_, zo, (pos + (dec s pos).2), i, k, rfl, n, zk, c, a, h, zo, ?_, ?_⟩
   ·(try simp only [List.length_append, List.length_cons, List.length_nil]); omega
   rw [← t, xU g, ← d, wU]; clear d; simp [dropW, *]; try (unfold lowerI; split <;> omega)
  intro am
  refine xC (zG (zw (zG (zw (wC .i32 b 45 ?_ ?_)))))
  ·intro ax
   refine xC (nQ (zT (xG (yD (yQ ?_)))))
   replace h := (h.trans (l.below j)).tr e
   replace a := zA a e
   replace c := c.below e
   refine zB ⟨_, zo, (pos + (dec s pos).2), i, k, rfl, n, zk, c, a, h, zo, ?_, ?_⟩
   ·(try simp only [List.length_append, List.length_cons, List.length_nil]); omega
   rw [← t, xU g, ← d, wU]; clear d; simp [dropW, *]; try (unfold lowerI; split <;> omega)
  intro aw
  refine xC (nQ (zF (zQ (zB (yF (wR (zG (zGe .i32 b 65 ?_ ?_))))))))
  ·intro ar
   refine zG (zw (zG (zw (zLe .i32 b 90 ?_ ?_))))
   ·intro an
    replace h := (h.trans (l.below j)).tr e
    replace c := c.below e
    refine xE (nQ (zT (zW (zG (wK b 32 (b + 32) rfl zk zk (wrap_i32 _ zh zh) (zH (nQ (zW (zG (zG (wV el23 w.heap.size k i (b + 32) h.size c zo zk rfl rfl zk rfl zk zk ?_)))))))))))
    intro af av z p ak
    replace h := h.tg h.size p c
    replace a := zA a e
    replace a := yH a p (c.ne a zi)
    replace c := z
    refine zH (zU (zL (zB ⟨_, zo, (pos + (dec s pos).2), (i ++ [(b + 32)]), af, rfl, n, zk, c, a, h, zo, ?_, ?_⟩)))
    ·(try simp only [List.length_append, List.length_cons, List.length_nil]); omega
    rw [← t, xU g, ← d, wU]; clear d; simp [dropW, *]; try (unfold lowerI; split <;> omega)
   intro az
   replace h := (h.trans (l.below j)).tr e
   replace c := c.below e
   refine xE (nQ (zF (zQ (zB (zW (zG (zG (wV el23 w.heap.size k i b h.size c zo zk rfl rfl zk rfl zk zk ?_))))))))
   intro ah ap ab r ag
   replace h := h.tg h.size r c
   replace a := zA a e
   replace a := yH a r (c.ne a zi)
   replace c := ab
   refine zH (zU (zL (zB ⟨_, zo, (pos + (dec s pos).2), (i ++ [b]), ah, rfl, n, zk, c, a, h, zo, ?_, ?_⟩)))
   ·(try simp only [List.length_append, List.length_cons, List.length_nil]); omega
   rw [← t, xU g, ← d, wU]; clear d; simp [dropW, *]; try (unfold lowerI; split <;> omega)
  intro ao
  replace h := (h.trans (l.below j)).tr e
  replace c := c.below e
  refine zG (zs (zs (xC (nQ (zF (zQ (zB (zW (zG (zG (wV el23 w.heap.size k i b h.size c zo zk rfl rfl zk rfl zk zk ?_)))))))))))
  intro aj aq aa q al
  replace h := h.tg h.size q c
  replace a := zA a e
  replace a := yH a q (c.ne a zi)
  replace c := aa
  refine zH (zU (zL (zB ⟨_, zo, (pos + (dec s pos).2), (i ++ [b]), aj, rfl, n, zk, c, a, h, zo, ?_, ?_⟩)))
  ·(try simp only [List.length_append, List.length_cons, List.length_nil]); omega
  rw [← t, xU g, ← d, wU]; clear d; simp [dropW, *]; try (unfold lowerI; split <;> omega)
 refine L_nextEnd s b1 pos zk a o (zr (.bool false) (nW (zF (xG (yD (yD (yQ (zB (wR (zG (zc (c_utf_Encode k i _ c.rd) ?_)))))))))))
 rintro _ a1 ⟨rfl, ac⟩
 replace h := h.tr ac
 exact zH (nQ (zS (yC [(S (encL i))] (hd := n) ⟨congrArg S (by rw [looseS, ← t, runesFrom_end o]; simp [looseL]), h⟩)))
theorem c_words_Alike (a : List UInt8) (b : List UInt8) (w : World) (ha : a.length ≤ 1073741824) (hb_ : b.length ≤ 1073741824) :
  Calls Tryz.prog 104 #[(S a), (S b)] w (Ret fun v w' => v = (.bool (alikeB a b)) ∧ Below w.heap.size w w') := by
 refine wG 10 func104 rfl ?_
 have c := Below.refl w.heap.size w
 refine wR (zH (nR (zG (zc (c_words_Loose a _ zo) ?_))))
 rintro _ f ⟨rfl, d⟩
 refine zG (zc (c_words_Loose b _ zo) ?_)
 rintro _ i ⟨rfl, e⟩
 refine L_seq (looseS a) (looseS b) rfl zk zk ?_ ?_
 ·intro g
  replace c := (c.tr d).tr e
  exact zH (nQ (zS (yC [(.bool true)] ⟨eb (by simp [alikeB, *]), c⟩)))
 intro h
 replace c := (c.tr d).tr e
 exact zH (nQ (zS (yC [(.bool false)] ⟨eb (by simp [alikeB, *]), c⟩)))
theorem c_points_Hex (s : List UInt8) (w : World) (hs : s.length ≤ 1073741824) :
  Calls Tryz.prog 75 #[(S s)] w (Ret fun v w' => v = (.tuple #[(I3 ((hexF s).1)), (I6 ((hexF s).2))]) ∧ Below w.heap.size w w') := by
 refine wG 45 func75 rfl ?_
 have c := Below.refl w.heap.size w
 refine wR (zH (zH (nW (wR (zG (zsl 9 s (nLt ((s).length) 4 ?_ ?_)))))))
 ·intro h1
  exact zG (zs (zs (zs (xE (zG (zs (zs (zs (zs (zs (zs (zs (zs (xE (nQ (zT (wR (zH (zH (nQ (zS (zE (yC [(I3 0), (I6 40)] ⟨xM (e3 (by (rw [hexF_len zo]; done))) (e6 (by (rw [hexF_len zo]; done))), c⟩)))))))))))))))))))))))
 intro h2
 refine zG (zw (zG (zw (zsl 9 s (zw (nGt ((s).length) 6 ?_ ?_))))))
 ·intro h3
  exact xC (zG (zs (zs (zs (zs (zs (zs (zs (zs (xE (nQ (zT (wR (zH (zH (nQ (zS (zE (yC [(I3 0), (I6 40)] ⟨xM (e3 (by (rw [hexF_len zo]; done))) (e6 (by (rw [hexF_len zo]; done))), c⟩)))))))))))))))))))
 intro h4
 refine xC (zG (zw (zG (zw (zsl 9 s (zw (nGt ((s).length) 4 ?_ ?_)))))))
 ·intro h5
  refine zw (zG (zw (zG (zw ?_))))
  have q := yL s 0 zo; obtain ⟨h, ac⟩ := q
  have := h.toNat_lt
  have t := digitV_range h.toNat
  have g := ibF_tab h
  refine L_sindex (k := .i64) s 0 h underlying9 ac zk zk (zw (L_cmp .u8 ((h.toNat : Nat) : Int) ((48 : Nat) : Int) (h.toNat = 48) rfl (cmpN_eq h.toNat 48) zk zk ?_ ?_))
  ·intro h8
   replace h8 : h.toNat = 48 := by omega
   exact zw (xE (xC (nQ (zT (wR (zH (zH (nQ (zS (zE (yC [(I3 0), (I6 40)] ⟨xM (e3 (by (rw [hexF_zero zo za zo]; done))) (e6 (by (rw [hexF_zero zo za zo]; done))), c⟩)))))))))))
  intro h9
  replace h9 : h.toNat ≠ 48 := by omega
  refine zw (xE (xC (nQ (zF (zQ (zB (wR (zH (nW (wR (zG (zsl 9 s (zG (nQ (yI (xN (fun m s0 w0 => ∃ (i : Nat) (n : Nat), (m = s.length - i) ∧ (s0.ds = []) ∧ ([0, 26, 4, 27].map s0.f = [(S s), (N6 ((s).length)), (I3 ((n : Nat) : Int)), (N6 i)]) ∧ (Below w.heap.size w w0) ∧ (i ≤ s.length) ∧ (n < 16 ^ i) ∧ (hexV (s.drop i) n = hexV s 0)) _ ⟨0, 0, rfl, zk, zk, c, by omega, by decide, rfl⟩ ?_))))))))))))))))
  rintro al aq aj ⟨i, n, hm, d, p, c, i1, o, e⟩
  refine xK p ?_
  have ab : i ≤ 5 → n < 1048576 := pow16 o
  have z : i ≤ 6 → n < 16777216 := pow166 o
  refine wR (nLt i ((s).length) ?_ ?_)
  ·intro az
   refine nW (zT (zQ (zB (yF (yI (wR (zG (zH (nR (zG (zG ?_)))))))))))
   have q := yL s i zo; obtain ⟨a, u⟩ := q
   have := a.toNat_lt
   have t := digitV_range a.toNat
   have g := ibF_tab a
   refine L_sindex (k := .i64) s i a underlying9 u zk zk (zc (xS ([48, 49, 50, 51, 52, 53, 54, 55, 56, 57, 65, 66, 67, 68, 69, 70] : List UInt8) ((a.toNat : Nat) : Int) _ ) ?_)
   rintro _ ai ⟨rfl, l⟩
   have := ib_range ([48, 49, 50, 51, 52, 53, 54, 55, 56, 57, 65, 66, 67, 68, 69, 70] : List UInt8) ((a.toNat : Nat) : Int)
   refine zH (nW (wR (zG (zLt .i64 (ibF ([48, 49, 50, 51, 52, 53, 54, 55, 56, 57, 65, 66, 67, 68, 69, 70] : List UInt8) ((a.toNat : Nat) : Int)) 0 ?_ ?_))))
   ·intro af
    have c := c.tr l
    exact nQ (zT (wR (zH (zH (nQ (zS (zE (zK (zE (zE (zK (zE (yC [(I3 0), (I6 40)] (hd := d) ⟨xM (e3 (by (rw [hexF_bad e za zo]; done))) (e6 (by (rw [hexF_bad e za zo]; done))), c⟩)))))))))))))
   intro aw
   refine nQ (zF (zQ (zB (zW (zG (L_shl (k := .i32) (yk := .u64) ((n : Nat) : Int) (((16 * n) : Nat) : Int) 4 16 rfl zk zk zk (by rw [wrap_i32 _ zo zo]; omega) (zG (L_conv (k := .i64) (ibF ([48, 49, 50, 51, 52, 53, 54, 55, 56, 57, 65, 66, 67, 68, 69, 70] : List UInt8) ((a.toNat : Nat) : Int)) (ibF ([48, 49, 50, 51, 52, 53, 54, 55, 56, 57, 65, 66, 67, 68, 69, 70] : List UInt8) ((a.toNat : Nat) : Int)) zk underlying21 zk (wrap_i32 _ zo zo) (L_orD (((16 * n) : Nat) : Int) (ibF ([48, 49, 50, 51, 52, 53, 54, 55, 56, 57, 65, 66, 67, 68, 69, 70] : List UInt8) ((a.toNat : Nat) : Int)) n ((ibF ([48, 49, 50, 51, 52, 53, 54, 55, 56, 57, 65, 66, 67, 68, 69, 70] : List UInt8) ((a.toNat : Nat) : Int)).toNat) zo zo zk zk (zH (zU (zL (zB (zW (zad i 1 (zG (zU ?_)))))))))))))))))
   have c := c.tr l
   refine zB ⟨_, zo, (i + 1), (16 * n + ((ibF ([48, 49, 50, 51, 52, 53, 54, 55, 56, 57, 65, 66, 67, 68, 69, 70] : List UInt8) ((a.toNat : Nat) : Int)).toNat)), rfl, d, zk, c, zo, ?_, ?_⟩
   ·rw [g]; exact pow16s o zo
   rw [g]; exact hexV_step e za zo
  intro ar
  refine nW (zF (xG (yD (yD (yQ (zB (yF (wR (zG (L_cmp .i32 ((n : Nat) : Int) ((1114111 : Nat) : Int) (1114111 < n) rfl (cmpN_gt n 1114111) zk zk ?_ ?_))))))))))
  ·intro aa
   replace aa : 1114111 < n := by omega
   exact nQ (zT (wR (zH (zH (nQ (zS (zE (yC [(I3 0), (I6 40)] (hd := d) ⟨xM (e3 (by (rw [hexF_big (hexV_end e zo) zo]; done))) (e6 (by (rw [hexF_big (hexV_end e zo) zo]; done))), c⟩))))))))
  intro ad
  replace ad : n ≤ 1114111 := by omega
  exact nQ (zF (zQ (zB (wR (zG (zH (zH (nQ (zS (yC [(I3 ((n : Nat) : Int)), (I6 0)] (hd := d) ⟨xM (e3 (by (rw [hexF_ok (hexV_end e zo) zo zo zo (.inr ⟨_, by assumption, by omega⟩)]; done))) (e6 (by (rw [hexF_ok (hexV_end e zo) zo zo zo (.inr ⟨_, by assumption, by omega⟩)]; done))), c⟩))))))))))
 intro ay
 refine zw (zG (zs (zs (zs (zw (xC (xC (nQ (zF (zQ (zB (wR (zH (nW (wR (zG (zsl 9 s (zG (nQ (yI (xN (fun m s0 w0 => ∃ (i : Nat) (n : Nat), (m = s.length - i) ∧ (s0.ds = []) ∧ ([0, 26, 4, 27].map s0.f = [(S s), (N6 ((s).length)), (I3 ((n : Nat) : Int)), (N6 i)]) ∧ (Below w.heap.size w w0) ∧ (i ≤ s.length) ∧ (n < 16 ^ i) ∧ (hexV (s.drop i) n = hexV s 0)) _ ⟨0, 0, rfl, zk, zk, c, by omega, by decide, rfl⟩ ?_)))))))))))))))))))))
 rintro av au ap ⟨i, n, hm, d, p, c, i1, o, e⟩
 refine xK p ?_
 have ab : i ≤ 5 → n < 1048576 := pow16 o
 have z : i ≤ 6 → n < 16777216 := pow166 o
 refine wR (nLt i ((s).length) ?_ ?_)
 ·intro ah
  refine nW (zT (zQ (zB (yF (yI (wR (zG (zH (nR (zG (zG ?_)))))))))))
  have q := yL s i zo; obtain ⟨b, r⟩ := q
  have := b.toNat_lt
  have t := digitV_range b.toNat
  have g := ibF_tab b
  refine L_sindex (k := .i64) s i b underlying9 r zk zk (zc (xS ([48, 49, 50, 51, 52, 53, 54, 55, 56, 57, 65, 66, 67, 68, 69, 70] : List UInt8) ((b.toNat : Nat) : Int) _ ) ?_)
  rintro _ ax ⟨rfl, j⟩
  have := ib_range ([48, 49, 50, 51, 52, 53, 54, 55, 56, 57, 65, 66, 67, 68, 69, 70] : List UInt8) ((b.toNat : Nat) : Int)
  refine zH (nW (wR (zG (zLt .i64 (ibF ([48, 49, 50, 51, 52, 53, 54, 55, 56, 57, 65, 66, 67, 68, 69, 70] : List UInt8) ((b.toNat : Nat) : Int)) 0 ?_ ?_))))
  ·intro a1
   have c := c.tr j
   exact nQ (zT (wR (zH (zH (nQ (zS (zE (zK (zE (zE (zK (zE (yC [(I3 0), (I6 40)] (hd := d) ⟨xM (e3 (by (rw [hexF_bad e za zo]; done))) (e6 (by (rw [hexF_bad e za zo]; done))), c⟩)))))))))))))
  intro a0
  refine nQ (zF (zQ (zB (zW (zG (L_shl (k := .i32) (yk := .u64) ((n : Nat) : Int) (((16 * n) : Nat) : Int) 4 16 rfl zk zk zk (by rw [wrap_i32 _ zo zo]; omega) (zG (L_conv (k := .i64) (ibF ([48, 49, 50, 51, 52, 53, 54, 55, 56, 57, 65, 66, 67, 68, 69, 70] : List UInt8) ((b.toNat : Nat) : Int)) (ibF ([48, 49, 50, 51, 52, 53, 54, 55, 56, 57, 65, 66, 67, 68, 69, 70] : List UInt8) ((b.toNat : Nat) : Int)) zk underlying21 zk (wrap_i32 _ zo zo) (L_orD (((16 * n) : Nat) : Int) (ibF ([48, 49, 50, 51, 52, 53, 54, 55, 56, 57, 65, 66, 67, 68, 69, 70] : List UInt8) ((b.toNat : Nat) : Int)) n ((ibF ([48, 49, 50, 51, 52, 53, 54, 55, 56, 57, 65, 66, 67, 68, 69, 70] : List UInt8) ((b.toNat : Nat) : Int)).toNat) zo zo zk zk (zH (zU (zL (zB (zW (zad i 1 (zG (zU ?_)))))))))))))))))
  have c := c.tr j
  refine zB ⟨_, zo, (i + 1), (16 * n + ((ibF ([48, 49, 50, 51, 52, 53, 54, 55, 56, 57, 65, 66, 67, 68, 69, 70] : List UInt8) ((b.toNat : Nat) : Int)).toNat)), rfl, d, zk, c, zo, ?_, ?_⟩
  ·rw [g]; exact pow16s o zo
  rw [g]; exact hexV_step e za zo
 intro an
 refine nW (zF (xG (yD (yD (yQ (zB (yF (wR (zG (L_cmp .i32 ((n : Nat) : Int) ((1114111 : Nat) : Int) (1114111 < n) rfl (cmpN_gt n 1114111) zk zk ?_ ?_))))))))))
 ·intro ae
  replace ae : 1114111 < n := by omega
  exact nQ (zT (wR (zH (zH (nQ (zS (zE (yC [(I3 0), (I6 40)] (hd := d) ⟨xM (e3 (by (exfalso; omega))) (e6 (by (exfalso; omega))), c⟩))))))))
 intro y
 replace y : n ≤ 1114111 := by omega
 exact nQ (zF (zQ (zB (wR (zG (zH (zH (nQ (zS (yC [(I3 ((n : Nat) : Int)), (I6 0)] (hd := d) ⟨xM (e3 (by (rw [hexF_ok (hexV_end e zo) zo zo zo (.inl zo)]; done))) (e6 (by (rw [hexF_ok (hexV_end e zo) zo zo zo (.inl zo)]; done))), c⟩))))))))))
theorem c_slices_Reverse {B_ E_ : Nat} (a : Value) (s : List (Int)) (w : World) (b : Row w B_ E_ 1 encU8 a s)  :
  Calls Tryz.prog 77 #[a] w (Ret fun v w' => v = (.tuple #[]) ∧ Row w' B_ E_ 1 encU8 a (List.reverse s) ∧ w.grownBy w' (Value.ownBlock a)) :=
 reverse_contract (fun x : Int => Value.int .u8 x) zj (AnyE.slices_Reverse_empty laysRev) (AnyE.slices_Reverse laysRev _ zj) a s w b
theorem c_points_Show (r : Int) (w : World) :
  Calls Tryz.prog 42 #[(I3 r)] w (Ret fun v w' => v = (.tuple #[(S ((showF r).1)), (I6 ((showF r).2))]) ∧ Below w.heap.size w w') := by
 refine wG 32 func42 rfl ?_
 have c := Below.refl w.heap.size w
 refine wR (zH (zH (nW (wR (zG (zLt .i32 r 0 ?_ ?_))))))
 ·intro h1
  exact zG (zs (zs (xE (nQ (zT (wR (zH (zH (nQ (zS (zE (yC [(S []), (I6 40)] ⟨xM (congrArg S (by (rw [showF_bad zo]; done))) (e6 (by (rw [showF_bad zo]; done))), c⟩))))))))))))
 intro h2
 refine zG (zw (zG (zw (zGt .i32 r 1114111 ?_ ?_))))
 ·intro h3
  exact xC (nQ (zT (wR (zH (zH (nQ (zS (zE (yC [(S []), (I6 40)] ⟨xM (congrArg S (by (rw [showF_bad zo]; done))) (e6 (by (rw [showF_bad zo]; done))), c⟩)))))))))
 intro h4
 refine xC (nQ (zF (zQ (zB (wR (zH (nW (wR (zG (zH (nQ (yI (xN (fun m s0 w0 => ∃ (a : List Int) (z : Int) (d : Value), (m = 10 - a.length) ∧ (s0.ds = []) ∧ ([2, 3, 4, 5].map s0.f = [(S []), (I6 0), d, (I3 z)]) ∧ (Row w0 w.heap.size 5 1 encU8 d a) ∧ (Below w.heap.size w w0) ∧ (a.length ≤ cntD r.toNat) ∧ (z = ((r.toNat / 16 ^ a.length : Nat) : Int)) ∧ (a = lowB (digsD r.toNat a.length))) _ ⟨[], r, (.slice none 0 0), rfl, zk, zk, Row.nil _ _ _ _ _, c, Nat.zero_le _, by simp; omega, rfl⟩ ?_)))))))))))))
 rintro m5 s6 w7 ⟨a, z, d, hm, h, ad, b, c, i1, g, i⟩
 refine xK ad ?_
 have an := cntD_le r.toNat
 have ah := show_factsR i1 g zo
 refine yF (wR (zG (zGt .i32 z 0 ?_ ?_)))
 ·intro h8
  refine zG (zs (zs (zs (xE (nQ (zT (zQ (zB (yF (yI (zW (zG (zG (L_and15 z z.toNat zo zk zk ?_))))))))))))))
  have hz := yL ([48, 49, 50, 51, 52, 53, 54, 55, 56, 57, 65, 66, 67, 68, 69, 70] : List UInt8) (z.toNat % 16) (by (rw [show (([48, 49, 50, 51, 52, 53, 54, 55, 56, 57, 65, 66, 67, 68, 69, 70] : List UInt8)).length = 16 from rfl]; omega)); obtain ⟨u, s⟩ := hz
  have := u.toNat_lt
  refine L_sindex (k := .i32) ([48, 49, 50, 51, 52, 53, 54, 55, 56, 57, 65, 66, 67, 68, 69, 70] : List UInt8) (z.toNat % 16) u underlying9 s zk zk (wV el97 w.heap.size d a ((u.toNat : Nat) : Int) c.size b zo zk rfl rfl zk rfl zk zk ?_)
  intro ac ai t l af
  have c := c.tg c.size l b
  have b := t
  refine zH (zU (zL (zB (zW (zG (L_shr (k := .i32) (yk := .u64) z 4 16 rfl zk zk zk (zH (zU (zB ⟨_, ?_, (a ++ [((u.toNat : Nat) : Int)]), (z / 16), ac, rfl, h, zk, b, c, ?_, ?_, ?_⟩)))))))))
  ·simp; omega
  ·simp; omega
  ·exact (show_stepR g i za).1
  exact (show_stepR g i za).2
 intro al
 refine zG (zw (zG (zw (zln underlying97 (b.rd).len (zw (nLt ((a).length) 4 ?_ ?_))))))
 ·intro ak
  refine xC (nQ (zT (zQ (zB (yF (yI (zW (zG (zG (L_and15 z z.toNat zo zk zk ?_))))))))))
  have hz := yL ([48, 49, 50, 51, 52, 53, 54, 55, 56, 57, 65, 66, 67, 68, 69, 70] : List UInt8) (z.toNat % 16) (by (rw [show (([48, 49, 50, 51, 52, 53, 54, 55, 56, 57, 65, 66, 67, 68, 69, 70] : List UInt8)).length = 16 from rfl]; omega)); obtain ⟨e, q⟩ := hz
  have := e.toNat_lt
  refine L_sindex (k := .i32) ([48, 49, 50, 51, 52, 53, 54, 55, 56, 57, 65, 66, 67, 68, 69, 70] : List UInt8) (z.toNat % 16) e underlying9 q zk zk (wV el97 w.heap.size d a ((e.toNat : Nat) : Int) c.size b zo zk rfl rfl zk rfl zk zk ?_)
  intro y aj o n ae
  have c := c.tg c.size n b
  have b := o
  refine zH (zU (zL (zB (zW (zG (L_shr (k := .i32) (yk := .u64) z 4 16 rfl zk zk zk (zH (zU (zB ⟨_, ?_, (a ++ [((e.toNat : Nat) : Int)]), (z / 16), y, rfl, h, zk, b, c, ?_, ?_, ?_⟩)))))))))
  ·simp; omega
  ·simp; omega
  ·exact (show_stepR g i za).1
  exact (show_stepR g i za).2
 intro am
 refine xC (nQ (zF (xG (yD (yD (yQ (zB (wR (zG (zc (c_slices_Reverse d a _ b ) ?_))))))))))
 rintro _ ag ⟨rfl, p, j⟩
 have c := c.tg c.size j b
 have b := p
 exact nR (zG (L_bytesStr d (List.reverse a) underlying97 underlying5 underlying9 zk b.rd (zH (zH (nQ (zS (yC [(S (bytesI (List.reverse a))), (I6 0)] (hd := h) ⟨xM (congrArg S (by (rw [showF_ok zo zo]; first | done | exact show_endR i1 g i zo zo))) (e6 (by (rw [showF_ok zo zo]; first | done | exact show_endR i1 g i zo zo))), c⟩)))))))
end Go.Proofs.YtddnhlobnembaaaGreatDoor
end

/- === FKl === -/
section
/- FKl: a strings.Builder of the call's own, carried over the steps of a walk; its methods. My own text, over the kit's shelf. -/
namespace Go.FK
open Go Go.RowKit
def Bld (T E B b : Nat) (l : List UInt8) (w : World) : Prop := Lib.IsBuilderF T E B b (Lib.byteCells l) w
theorem Bld.at {T E B b : Nat} {l : List UInt8} {w : World} (h : Bld T E B b l w) : B ≤ b ∧ ∃ p v, w.heap[b]? = some (.cells #[p, v] T (0, 0)) := by
 rcases h with ⟨hB, v, hb, _⟩ | ⟨hB, v, hb, _⟩
 ·exact ⟨hB, _, v, hb⟩
 ·exact ⟨hB, _, v, hb⟩
theorem Bld.of {T E B b : Nat} {w : World} (hb : w.heap[b]? = some (.cells [Value.pointer none, Value.slice none 0 0].toArray T (0, 0))) (hB : B ≤ b) : Bld T E B b [] w := by
 refine .inl ⟨hB, .slice none 0 0, hb, ?_, by simp [Value.ownBlock]⟩
 exact World.ownsRowF_of (World.ownsRow_nil _ _ _ _)
theorem Bld.lt {T E B b : Nat} {l : List UInt8} {w : World} (h : Bld T E B b l w) : b < w.heap.size := by
 obtain ⟨_, p, v, hb⟩ := h.at
 exact zV hb
theorem bldAt_same {T E B b : Nat} {p : Value} {bs : List Value} {w w' : World} (h : Lib.BuilderAtF T E B b p bs w) (hk : ∀ k : Nat, (∃ cs X fz, w.heap[k]? = some (.cells cs X fz) ∧ (X = T ∨ X = E)) → w'.heap[k]? = w.heap[k]?) : Lib.BuilderAtF T E B b p bs w' := by
 obtain ⟨hB, v, hb, hown, hne⟩ := h
 refine ⟨hB, v, (hk b ⟨_, _, _, hb, .inl rfl⟩).trans hb, ⟨hown.1, ?_⟩, hne⟩
 rcases hown.2 with hn | ⟨g, cap, cur, fz, hv, hbg, hg, rest⟩
 ·exact .inl hn
 ·exact .inr ⟨g, cap, cur, fz, hv, hbg, (hk g ⟨_, _, _, hg, .inr rfl⟩).trans hg, rest⟩
theorem Bld.same {T E B b : Nat} {l : List UInt8} {w w' : World} (h : Bld T E B b l w) (hk : ∀ k : Nat, (∃ cs X fz, w.heap[k]? = some (.cells cs X fz) ∧ (X = T ∨ X = E)) → w'.heap[k]? = w.heap[k]?) : Bld T E B b l w' :=
 h.elim (fun x => .inl (bldAt_same x hk)) (fun x => .inr (bldAt_same x hk))
theorem Bld.wrote {T E B b k : Nat} {l : List UInt8} {w w' : World} {o o0 : Obj} (h : Bld T E B b l w) (hW : Wrote w w' k o) (hk : w.heap[k]? = some o0) (ho : ∀ cs X fz, o0 = .cells cs X fz → X ≠ T ∧ X ≠ E) : Bld T E B b l w' :=
 h.same fun j ⟨cs, X, fz, hj, hX⟩ => hW.other j fun e => by
  subst e
  rw [hk] at hj
  have := ho cs X fz (Option.some.inj hj)
  rcases hX with a | a
  ·exact this.1 a
  ·exact this.2 a
theorem Bld.obj_kept {T E B b k : Nat} {l : List UInt8} {w w' : World} {o : Obj} (h : Bld T E B b l w) (hO : Lib.OthersKept E (some b) w w') (hk : w.heap[k]? = some o) (ho : ∀ cs X fz, o = .cells cs X fz → X ≠ T ∧ X ≠ E) : w'.heap[k]? = some o := by
 refine hO k o hk (fun e => ?_) (fun cs fz e => ?_)
 ·obtain ⟨_, p, v, hb⟩ := h.at
  have e := Option.some.inj e
  subst e
  rw [hb] at hk
  exact (ho _ _ _ (Option.some.inj hk).symm).1 rfl
 ·exact (ho _ _ _ e).2 rfl
theorem bldStr {P : Program} {f : FuncId} {T E B b : Nat} (h1 : ∀ (B b : Nat) (l : List UInt8) (w : World), Lib.IsBuilderF T E B b (Lib.byteCells l) w → B ≤ w.heap.size →
   Calls P f #[.pointer (some ⟨b, 0, none⟩)] w fun e w' => e = .returned (.string ⟨l.toArray⟩) ∧ (Lib.IsBuilderF T E B b (Lib.byteCells l) w' ∧ Below B w w' ∧ Lib.OthersKept E (some b) w w'))
  (l : List UInt8) (w : World) (h : Bld T E B b l w) (hB : B ≤ w.heap.size) :
  Calls P f #[.pointer (some ⟨b, 0, none⟩)] w (Ret fun v w' => v = S l ∧ Bld T E B b l w' ∧ Below B w w' ∧ Lib.OthersKept E (some b) w w') := by
 refine (h1 B b l w h hB).mono ?_
 rintro e w' ⟨rfl, c, a, d⟩
 exact ⟨_, rfl, rfl, c, a, d⟩
end Go.FK
end

/- === FKi === -/
section
/- FKi: regions that draw their order, whose operations have guards. My own text. -/
namespace Go.FK
open Go Go.RowKit
section
variable {P : Program} {n : Nat} {Q : Post} {s : Fm} {w : World} {ops : Array Oper} {fuel : Nat} {listed : Array Bool}
end
section
variable {P : Program} {n : Nat} {Q : Post} {s : Fm} {w : World} {ops : Array Oper} {fuel : Nat} {listed : Array Bool}
def noG (o : Oper) : Oper := { o with guard := none }
end
section
variable {P : Program} {n : Nat} {Q : Post} {s : Fm} {w : World} {ops : Array Oper} {fuel : Nat} {listed : Array Bool}
end
section
variable {P : Program} {n : Nat} {Q : Post} {s : Fm} {w : World} {ops : Array Oper} {fuel : Nat} {listed : Array Bool} {C : World → Prop}
end
section ops
variable {r : Option Nat} {P : Program} {n : Nat} {Q : Post} {s : Fm} {w : World} {ops : Array Oper} {rest : List Oper}
variable {d : Option Tmp} {ty : TypeId} {pos : String} {af : Array Edge}
end ops
end Go.FK
end

/- === FKab === -/
section
/- FKab: what the writing methods of strings.Builder do to memory: the pieces of their walks. My own text. -/
namespace Go.FK
open Go Go.RowKit
section
variable {T E B b : Nat} {l m : List UInt8} {w w1 w2 w3 : World} {p v v2 : Value}
theorem byteCells_len (l : List UInt8) : (Lib.byteCells l).length = l.length := by simp [Lib.byteCells]
end
section ops
variable {r : Option Nat} {P : Program} {n : Nat} {Q : Post} {s : Fm} {w : World} {ops : Array Oper} {rest : List Oper}
variable {d : Option Tmp} {ty : TypeId} {pos : String} {af : Array Edge} {T U E B : Nat} {l : List UInt8} {v : Value}
theorem info_u8 (hi : (P.info? E).map (fun i => (i.zero, i.size, i.bytes)) = some (some (.int .u8 0), 1, 1)) : ∃ i, P.info? E = some i ∧ i.zero = some (.int .u8 0) ∧ i.size = 1 ∧ i.bytes = 1 := by
 cases hq : P.info? E with
 | none => rw [hq] at hi; cases hi
 | some i =>
  rw [hq] at hi
  simp only [Option.map_some, Option.some.injEq, Prod.mk.injEq] at hi
  exact ⟨i, rfl, hi.1, hi.2.1, hi.2.2⟩
theorem L_toUns {src dst t : TypeId} {X : Operand} {k : Nat} {e : TypeId} {cs : List Value} (b : Nat) (hs : P.underlying src = some (.pointer t)) (hd : P.underlying dst = some .unsafePointer) (hi : (P.info? t).map (·.size) = some k) (hk : Nat.beq k 0 = false)
  (ho : w.heap[b]? = some (.cells cs.toArray e (0, 0))) (hc : Nat.blt 0 cs.length = true) (hX : s.ev n X = .pointer (some ⟨b, 0, none⟩)) (h : L r P n ops Q rest (s.put d (.pointer (some ⟨b, 0, none⟩))) w) :
  L r P n ops Q (⟨d, .convert src dst X, ty, pos, af, none⟩ :: rest) s w := by
 obtain ⟨j, hj, hjs⟩ := Option.map_eq_some_iff.1 hi
 have hsh : w.shape? b = some (e, cs.length) := by simp [World.shape?, ho]
 refine xI _ w (by simp) ?_ h
 simp only [execOp, hX, Sem.run_bind, Lib.run_to_unsafe (P := P) (w := w) ⟨b, 0, none⟩ hs hd hj (by rw [hjs]; intro e; subst e; simp at hk) hsh (by simpa using hc), Result.andThen_ok, Sem.run_pure]
theorem L_fromUns {src dst t : TypeId} {X : Operand} {k : Nat} {e : TypeId} {cs : List Value} (b : Nat) (hs : P.underlying src = some .unsafePointer) (hd : P.underlying dst = some (.pointer t)) (hi : (P.info? t).map (·.size) = some k)
  (ho : w.heap[b]? = some (.cells cs.toArray e (0, 0))) (hl : liesAt P P.depth e (cs.length / P.cellsOf e) 0 t 1 = true) (hX : s.ev n X = .pointer (some ⟨b, 0, none⟩)) (h : L r P n ops Q rest (s.put d (.pointer (some ⟨b, 0, none⟩))) w) :
  L r P n ops Q (⟨d, .convert src dst X, ty, pos, af, none⟩ :: rest) s w := by
 obtain ⟨j, hj, hjs⟩ := Option.map_eq_some_iff.1 hi
 have hsh : w.shape? b = some (e, cs.length) := by simp [World.shape?, ho]
 refine xI _ w (by simp) ?_ h
 simp only [execOp, hX, Sem.run_bind, Lib.run_from_unsafe (P := P) (w := w) ⟨b, 0, none⟩ hs hd hj hsh hl, Result.andThen_ok, Sem.run_pure]
theorem L_pneF {tp te yt : TypeId} {X Y : Operand} {k : Nat} (b : Nat) (hp : P.underlying tp = some (.pointer te)) (hi : (P.info? te).map (·.size) = some k) (hX : s.ev n X = .pointer (some ⟨b, 0, none⟩)) (hY : s.ev n Y = .pointer (some ⟨b, 0, none⟩))
  (hg : (eqGuard .neq tp X Y (.pointer (some ⟨b, 0, none⟩)) (.pointer (some ⟨b, 0, none⟩))).run P w = .ok () w) (h : L r P n ops Q rest (s.put d (.bool false)) w) : L r P n ops Q (⟨d, .binOp .neq tp X Y yt, ty, pos, af, none⟩ :: rest) s w := by
 obtain ⟨j, hj, _⟩ := Option.map_eq_some_iff.1 hi
 exact L_bin _ _ (.bool false) hX hY hg (Lib.run_neq_ptr_same w ⟨b, 0, none⟩ hp hj) h
end ops
end Go.FK
end

/- === FKad === -/
section
/- FKad: the cells of a row's block as they lie: slices of the block, copies into it. My own text. -/
namespace Go.FK
open Go Go.RowKit
def AtE {α : Type} (enc : α → List Value) (k : Nat) (cur : List Value) (a : Nat) (ys : List α) : Prop := (cur.drop (a * k)).take (ys.length * k) = ys.flatMap enc
def putAt (k : Nat) (cur : List Value) (a : Nat) (cs : List Value) : List Value := cur.take (a * k) ++ cs ++ cur.drop (a * k + cs.length)
structure Raw (w : World) (B E k g cap : Nat) (cur : List Value) : Prop where
  base : B ≤ g
  here : w.heap[g]? = some (.cells cur.toArray E (0, 0))
  capm : cap ≤ maxLen
  size : cur.length = cap * k
theorem putAt_len {k a : Nat} {cur cs : List Value} (h : a * k + cs.length ≤ cur.length) : (putAt k cur a cs).length = cur.length := by
 unfold putAt; rw [List.length_append, List.length_append, List.length_take, List.length_drop]; omega
section
variable {α : Type} {enc : α → List Value} {k : Nat} {cur cs : List Value}
end
theorem Raw.frozen {w : World} {B E k g cap : Nat} {cur : List Value} (h : Raw w B E k g cap cur) (j : Nat) : w.frozen? ⟨g, j, none⟩ = false := by unfold World.frozen?; rw [h.here]; simp
section ops
variable {r : Option Nat} {P : Program} {n : Nat} {Q : Post} {s : Fm} {w : World} {ops : Array Oper} {rest : List Oper}
variable {d : Option Tmp} {ty : TypeId} {pos : String} {af : Array Edge}
theorem Raw.put {B E k g cap a : Nat} {cur cs : List Value} (h : Raw w B E k g cap cur) (hf : a * k + cs.length ≤ cur.length) : Raw (w.setRow g (putAt k cur a cs).toArray) B E k g cap (putAt k cur a cs) :=
 ⟨h.base, setRow_heap w g _ _ E (0, 0) h.here, h.capm, by rw [putAt_len hf]; exact h.size⟩
end ops
end Go.FK
end

/- === FKae === -/
section
/- FKae: a region that draws its order, of which the first operations only read and must all come before one that changes memory: they may be walked in the order of the text. My own text. -/
namespace Go.FK
open Go Go.RowKit
def onB (o : Oper) (i : Nat) : Bool := o.after.any fun e => Region.binds .any e && Nat.beq e.on i
def preOk (ops : Array Oper) (k : Nat) : Bool :=
  ((List.range k).all fun i => match ops[i]? with
    | some o => (o.after.all fun e => !Region.binds .any e || decide (e.on < i)) && (match o.guard with | none => true | some g => decide (g.1 < k))
    | none => false) &&
  ((List.range k).all fun i => (List.range (k + 1)).any fun j => decide (i < j) && (match ops[j]? with | some o => onB o i | none => false)) &&
  ((List.range ops.size).all fun j => decide (j ≤ k) || (match ops[j]? with | some o => o.after.any fun e => Region.binds .any e && decide (k ≤ e.on) | none => false))
def preL (k N : Nat) : Array Bool := ((List.range N).map fun j => decide (j < k)).toArray
section
variable {ops : Array Oper} {k : Nat} {L : Array Bool}
structure PreI (ops : Array Oper) (k : Nat) (L : Array Bool) : Prop where
  size : L.size = ops.size
  high : ∀ j, k ≤ j → j < ops.size → L.getD j true = false
  down : ∀ i o, i < k → ops[i]? = some o → L.getD i true = true → ∀ e ∈ o.after, Region.binds .any e = true → L.getD e.on false = true
theorem pre_back (h : preOk ops k = true) {i : Nat} (hi : i < k) : ∃ o, ops[i]? = some o ∧ (∀ e ∈ o.after, Region.binds .any e = true → e.on < i) ∧ (∀ g, o.guard = some g → g.1 < k) := by
 unfold preOk at h
 simp only [Bool.and_eq_true, List.all_eq_true, List.mem_range] at h
 have a := h.1.1 i hi
 cases ho : ops[i]? with
 | none => rw [ho] at a; cases a
 | some o =>
  rw [ho] at a
  simp only [Bool.and_eq_true] at a
  refine ⟨o, rfl, fun e he hb => ?_, fun g hg => ?_⟩
  ·have := Array.all_eq_true'.1 a.1 e he
   simpa [hb] using this
  ·have b := a.2; rw [hg] at b; simpa using b
theorem pre_used (h : preOk ops k = true) {i : Nat} (hi : i < k) : ∃ j o, i < j ∧ j ≤ k ∧ ops[j]? = some o ∧ ∃ e ∈ o.after, Region.binds .any e = true ∧ e.on = i := by
 unfold preOk at h
 simp only [Bool.and_eq_true, List.all_eq_true, List.mem_range, List.any_eq_true] at h
 obtain ⟨j, hj, b, a⟩ := h.1.2 i hi
 cases ho : ops[j]? with
 | none => rw [ho] at a; cases a
 | some o =>
  rw [ho] at a
  simp only [onB] at a
  obtain ⟨e, he, hb⟩ := Array.any_eq_true'.1 a
  simp only [Bool.and_eq_true] at hb
  exact ⟨j, o, by simpa using b, by omega, ho, e, he, hb.1, Nat.eq_of_beq_eq_true hb.2⟩
theorem pre_rest (h : preOk ops k = true) {j : Nat} (hj : k < j) {o : Oper} (ho : ops[j]? = some o) : ∃ e ∈ o.after, Region.binds .any e = true ∧ k ≤ e.on := by
 unfold preOk at h
 simp only [Bool.and_eq_true, List.all_eq_true, List.mem_range] at h
 have hlt : j < ops.size := (Array.getElem?_eq_some_iff.1 ho).1
 have a := h.2 j hlt
 rw [ho] at a
 simp only [Bool.or_eq_true] at a
 rcases a with a | a
 ·have := of_decide_eq_true a; omega
 ·obtain ⟨e, he, hb⟩ := Array.any_eq_true'.1 a
  simp only [Bool.and_eq_true] at hb
  exact ⟨e, he, hb.1, of_decide_eq_true hb.2⟩
theorem getD_tf {L : Array Bool} {i : Nat} (h : i < L.size) : L.getD i false = L.getD i true := by simp [h]
theorem pre_low (h : preOk ops k = true) (hI : PreI ops k L) (hk : k ≤ ops.size) {i : Nat} (hi : i < k) (hu : L.getD i true = false) {j : Nat} (hj : j ∈ Region.ready .any ops L) : j < k := by
 rcases Nat.lt_or_ge j k with hlt | hge
 ·exact hlt
 exfalso
 obtain ⟨c, o, ho, hall⟩ := mem_ready.1 hj
 rcases Nat.lt_or_ge k j with hlt | hle
 ·obtain ⟨e, he, hb, hke⟩ := pre_rest h hlt ho
  have a := hall e he hb
  rcases Nat.lt_or_ge e.on ops.size with hs | hs
  ·rw [getD_tf (by rw [hI.size]; exact hs), hI.high _ hke hs] at a; cases a
  ·rw [Array.getD_eq_getD_getElem?, Array.getElem?_eq_none (by rw [hI.size]; exact hs)] at a; cases a
 ·obtain rfl : j = k := by omega
  -- all of the k first are listed
  have key : ∀ m i, j - i ≤ m → i < j → L.getD i true = true := by
   intro m
   induction m with
   | zero => intro i a b; omega
   | succ m ih =>
    intro i a b
    obtain ⟨j', o', hij, hjk, ho', e, he, hb, heq⟩ := pre_used h b
    rw [← heq]
    rw [← getD_tf (by rw [hI.size]; omega)]
    rcases Nat.lt_or_ge j' j with hl | hg
    ·exact hI.down j' o' hl ho' (ih j' (by omega) hl) e he hb
    ·obtain rfl : j' = j := by omega
     rw [ho] at ho'; cases ho'
     exact hall e he hb
  have := key j i (by omega) hi
  rw [hu] at this; cases this
theorem pre_ready (h : preOk ops k = true) (hI : PreI ops k L) : ∀ i, i < k → L.getD i true = false → ∃ j, j < k ∧ j ∈ Region.ready .any ops L := by
 intro i
 induction i using Nat.strongRecOn with
 | ind i ih =>
  intro hi hu
  obtain ⟨o, ho, hb, _⟩ := pre_back h hi
  by_cases hx : ∃ m, m < i ∧ L.getD m true = false
  ·obtain ⟨m, hm, hmu⟩ := hx
   exact ih m hm (by omega) hmu
  ·refine ⟨i, hi, mem_ready.2 ⟨hu, o, ho, fun e he hbi => ?_⟩⟩
   have hlt := hb e he hbi
   have his : i < ops.size := (Array.getElem?_eq_some_iff.1 ho).1
   rw [getD_tf (by rw [hI.size]; omega)]
   cases hc : L.getD e.on true with
   | true => rfl
   | false => exact absurd ⟨_, hlt, hc⟩ hx
theorem PreI.set (hI : PreI ops k L) {i : Nat} (hi : i < k) (hr : i ∈ Region.ready .any ops L) : PreI ops k (L.setIfInBounds i true) := by
 obtain ⟨a, o, ho, hall⟩ := mem_ready.1 hr
 refine ⟨by rw [Array.size_setIfInBounds]; exact hI.size, fun j hj hs => by rw [getD_set_ne true (by omega)]; exact hI.high j hj hs, fun j o' hj ho' hl e he hb => ?_⟩
 by_cases hij : i = j
 ·subst hij
  rw [ho] at ho'; cases ho'
  exact getD_set_true (hall e he hb)
 ·rw [getD_set_ne true hij] at hl
  exact getD_set_true (hI.down j o' hj ho' hl e he hb)
def unl (L : Array Bool) : Nat → Nat
  | 0 => 0
  | k + 1 => (if L.getD k true = false then 1 else 0) + unl L k
theorem unl_far {i : Nat} : ∀ k, k ≤ i → unl (L.setIfInBounds i true) k = unl L k
 | 0, _ => rfl
 | k + 1, h => by unfold unl; rw [getD_set_ne true (by omega), unl_far k (by omega)]
theorem unl_set {i : Nat} (hs : i < L.size) (hu : L.getD i true = false) : ∀ k, i < k → unl (L.setIfInBounds i true) k + 1 = unl L k
 | 0, h => by omega
 | k + 1, h => by
  unfold unl
  by_cases hik : i = k
  ·subst hik
   rw [unl_far i (Nat.le_refl _), if_pos hu, if_neg (by simp [hs])]; omega
  ·rw [getD_set_ne true hik, ← unl_set hs hu k (by omega)]; omega
theorem unl_zero : ∀ k, unl L k = 0 → ∀ i, i < k → L.getD i true = true
 | 0, _, i, h => by omega
 | k + 1, h, i, hi => by
  unfold unl at h
  rcases Nat.lt_or_ge i k with hl | hg
  ·exact unl_zero k (by omega) i hl
  ·obtain rfl : i = k := by omega
   cases hc : L.getD i true with
   | true => rfl
   | false => rw [if_pos hc] at h; omega
theorem unl_some : ∀ k, unl L k ≠ 0 → ∃ i, i < k ∧ L.getD i true = false
 | 0, h => absurd rfl h
 | k + 1, h => by
  unfold unl at h
  by_cases hc : L.getD k true = false
  ·exact ⟨k, by omega, hc⟩
  ·rw [if_neg hc] at h
   obtain ⟨i, hi, hu⟩ := unl_some k (by omega)
   exact ⟨i, by omega, hu⟩
theorem unl_all {N : Nat} : ∀ k, k ≤ N → unl (Array.replicate N false) k = k
 | 0, _ => rfl
 | k + 1, h => by unfold unl; rw [if_pos (by simp [show k < N by omega]), unl_all k (by omega)]; omega
theorem preL_eq (hI : PreI ops k L) (hk : k ≤ ops.size) (h0 : unl L k = 0) : L = preL k ops.size := by
 refine Array.ext (by rw [hI.size]; simp [preL]) fun i h1 h2 => ?_
 have hs : i < ops.size := by rw [← hI.size]; exact h1
 have e : L.getD i true = L[i] := by simp [h1]
 rw [← e]
 have a : (preL k ops.size)[i] = decide (i < k) := by simp [preL]
 rw [a]
 rcases Nat.lt_or_ge i k with hl | hg
 ·rw [unl_zero k h0 i hl, decide_eq_true hl]
 ·rw [hI.high i hg hs, decide_eq_false (by omega)]
end
section
variable {P : Program} {n : Nat} {ops : Array Oper} {k fuel : Nat} {C : World → Prop} {K : Act → Prop} {Q' : Exit → Act → World → Prop}
end
theorem PreI.zero {ops : Array Oper} {k : Nat} : PreI ops k (Array.replicate ops.size false) := by
 refine ⟨by simp, fun j _ hs => by simp [hs], fun i o hi ho hl e he hb => ?_⟩
 have hs : i < ops.size := (Array.getElem?_eq_some_iff.1 ho).1
 simp [hs] at hl
section
variable {P : Program} {n : Nat} {Q : Post} {s : Fm} {w : World}
end
end Go.FK
end

/- === FKan === -/
section
/- FKan: a region that draws its order, of which the first a operations are taken already: those up to k only read and must all come before one that changes memory: they may be walked in the order of the text. As FKae, begun later. My own text. -/
namespace Go.FK
open Go Go.RowKit
def preOkE (ops : Array Oper) (a k : Nat) : Bool :=
  ((List.range k).all fun i => match ops[i]? with
    | some o => (o.after.all fun e => !Region.binds .any e || decide (e.on < i)) && (match o.guard with | none => true | some g => decide (g.1 < k))
    | none => false) &&
  ((List.range k).all fun i => decide (i < a) || (List.range (k + 1)).any fun j => decide (i < j) && (match ops[j]? with | some o => onB o i | none => false)) &&
  ((List.range ops.size).all fun j => decide (j ≤ k) || (match ops[j]? with | some o => o.after.any fun e => Region.binds .any e && decide (k ≤ e.on) | none => false))
section
variable {ops : Array Oper} {a k : Nat} {L : Array Bool}
end
section
variable {P : Program} {n : Nat} {ops : Array Oper} {a k fuel : Nat} {C : World → Prop} {K : Act → Prop} {Q' : Exit → Act → World → Prop}
theorem getD_preL {a N i : Nat} (hi : i < N) : (preL a N).getD i true = decide (i < a) := by simp [preL, hi]
end
section
variable {P : Program} {n : Nat} {Q : Post} {s : Fm} {w : World}
end
section
variable {r : Option Nat} {P : Program} {n : Nat} {ops : Array Oper} {Q : Post} {rest : List Oper} {s : Fm} {w : World} {d : Option Tmp} {ty : TypeId} {pos : String} {af : Array Edge}
end
end Go.FK
end

/- === FKao === -/
section
/- FKao: a region that draws its order, of which the first k operations leave old memory alone (they may call, and make memory) and must all come before one behind: what each hands out is known by a fact that stays; each operation is walked once. My own text. -/
namespace Go.FK
open Go Go.RowKit
def dOf (D : List Nat) (i : Nat) : Nat := D.getD i 0
def diffB (D : List Nat) : Bool := (List.range D.length).all fun i => (List.range D.length).all fun j => Nat.beq i j || !Nat.beq (dOf D i) (dOf D j)
theorem diff_of {D : List Nat} (h : diffB D = true) {i j : Nat} (hi : i < D.length) (hj : j < D.length) (e : i ≠ j) : dOf D i ≠ dOf D j := fun q => by
 unfold diffB at h
 have a := List.all_eq_true.1 (List.all_eq_true.1 h i (List.mem_range.2 hi)) j (List.mem_range.2 hj)
 rw [q] at a
 have : Nat.beq i j = false := by
  cases hb : Nat.beq i j with
  | false => rfl
  | true => exact absurd (Nat.eq_of_beq_eq_true hb) e
 rw [this] at a
 simp at a
def OneOk (P : Program) (n : Nat) (ops : Array Oper) (w0 : World) (s0 : Fm) (D : List Nat) (G : Nat → Value → World → Prop) (i : Nat) (o : Oper) : Prop :=
  ∀ s w, Below w0.heap.size w0 w → s.ds = s0.ds → (∀ t, D.contains t = false → s.f t = s0.f t) → (∀ j, onB o j = true → G j (s.f (dOf D j)) w) →
    ∀ Z : Fm → World → Prop, (∀ s' w', Below w.heap.size w w' → s'.ds = s.ds → (∀ t, t ≠ dOf D i → s'.f t = s.f t) → G i (s'.f (dOf D i)) w' → Z s' w') →
    L none P n ops (fun c s' w' => c = .normal ∧ Z s' w') [o] s w
def OpsOk (P : Program) (n : Nat) (ops : Array Oper) (w0 : World) (s0 : Fm) (D : List Nat) (G : Nat → Value → World → Prop) : Nat → List Oper → Prop
  | _, [] => True
  | i, o :: rest => OneOk P n ops w0 s0 D G i o ∧ OpsOk P n ops w0 s0 D G (i + 1) rest
section
variable {P : Program} {n : Nat} {ops : Array Oper} {w0 : World} {s0 : Fm} {D : List Nat} {G : Nat → Value → World → Prop}
theorem ops_at (l : List Oper) : ∀ (i j : Nat) (o : Oper), OpsOk P n ops w0 s0 D G i l → l[j]? = some o → OneOk P n ops w0 s0 D G (i + j) o := by
 induction l with
 | nil => intro i j o h e; simp at e
 | cons a l ih =>
  intro i j o h e
  have h' : OneOk P n ops w0 s0 D G i a ∧ OpsOk P n ops w0 s0 D G (i + 1) l := h
  cases j with
  | zero =>
   have e : a = o := by simpa using e
   rw [Nat.add_zero, ← e]; exact h'.1
  | succ j =>
   have := ih (i + 1) j o h'.2 (by simpa using e)
   rw [show i + (j + 1) = i + 1 + j by omega]; exact this
def InvL (w0 : World) (s0 : Fm) (D : List Nat) (G : Nat → Value → World → Prop) (k : Nat) (A : Array Bool) (s : Fm) (w : World) : Prop :=
  Below w0.heap.size w0 w ∧ s.ds = s0.ds ∧ (∀ t, D.contains t = false → s.f t = s0.f t) ∧ ∀ i, i < k → A.getD i false = true → G i (s.f (dOf D i)) w
theorem inv_any {Q : Post} {k fuel : Nat} (h : preOk ops k = true) (hk : k ≤ ops.size) (hD : diffB D = true) (hDl : D.length = k) (hng : ∀ i o, i < k → ops[i]? = some o → o.guard = none)
  (hG : ∀ i v A B, G i v A → Below A.heap.size A B → G i v B) (hop : ∀ i o, i < k → ops[i]? = some o → OneOk P n ops w0 s0 D G i o)
  (fin : ∀ s w, InvL w0 s0 D G k (preL k ops.size) s w → Li P n ops Q fuel (preL k ops.size) s w) :
  ∀ (m : Nat) (A : Array Bool) (s : Fm) (w : World), PreI ops k A → unl A k = m → InvL w0 s0 D G k A s w → Li P n ops Q (m + fuel) A s w
 | 0, A, s, w, hI, hu, hv => by
  rw [Nat.zero_add]
  have e := preL_eq hI hk hu
  subst e
  exact fin s w hv
 | m + 1, A, s, w, hI, hu, hv => by
  obtain ⟨p, b, a⟩ := unl_some k (by omega : unl A k ≠ 0)
  rw [show m + 1 + fuel = m + fuel + 1 by omega]
  unfold Li
  refine ⟨fun he => ?_, fun i hi => ?_⟩
  ·obtain ⟨j, _, hj⟩ := pre_ready h hI p b a
   rw [he] at hj; cases hj
  ·have hik := pre_low h hI hk b a hi
   obtain ⟨o, ho, hbk, _⟩ := pre_back h hik
   have hs : i < A.size := by rw [hI.size]; omega
   have hun := (mem_ready.1 hi).1
   have hset := unl_set hs hun k hik
   obtain ⟨_, q, c, hall⟩ := mem_ready.1 hi
   rw [ho] at c; cases c
   have l := hop i o hik ho s w hv.1 hv.2.1 hv.2.2.1 (fun j hj => by
    unfold onB at hj
    obtain ⟨e, he, hb⟩ := Array.any_eq_true'.1 hj
    simp only [Bool.and_eq_true] at hb
    have d := hall e he hb.1
    have r := hbk e he hb.1
    have g : e.on = j := Nat.eq_of_beq_eq_true hb.2
    rw [← g]
    exact hv.2.2.2 _ (by omega) d) (fun s' w' => Li P n ops Q (m + fuel) (A.setIfInBounds i true) s' w') (fun s' w' q2 q3 q4 q5 => by
    refine inv_any h hk hD hDl hng hG hop fin m _ s' w' (hI.set hik hi) (by omega) ⟨?_, q3.trans hv.2.1, fun t ht => ?_, fun j hj hl => ?_⟩
    ·exact hv.1.trans (q2.mono hv.1.size)
    ·rw [q4 t (fun e => by
      rw [e] at ht
      have : D.contains (dOf D i) = true := by
       rw [List.contains_iff_mem]
       unfold dOf
       rw [List.getD_eq_getElem?_getD, List.getElem?_eq_getElem (by omega)]
       exact List.getElem_mem _
      rw [this] at ht; cases ht)]
     exact hv.2.2.1 t ht
    ·by_cases hij : i = j
     ·subst hij; exact q5
     ·rw [q4 _ (diff_of hD (by omega) (by omega) (fun e => hij e.symm))]
      refine hG _ _ _ _ (hv.2.2.2 j hj ?_) q2
      have hjs : j < A.size := by rw [hI.size]; omega
      have f : (A.setIfInBounds i true).getD j false = A.getD j false := by
       rw [Array.getD_eq_getD_getElem?, Array.getD_eq_getD_getElem?, Array.getElem?_setIfInBounds, if_neg hij]
      rw [f] at hl; exact hl)
   have d := I_op (Q := Q) (fuel := m + fuel) (listed := A) i ho l (hng i o hik ho)
   unfold Iop at d
   exact d
end
section
variable {P : Program} {n : Nat} {Q : Post} {s : Fm} {w : World}
theorem W_inv {r : Option Nat} {id : Nat} {l : List Oper} (k N m : Nat) (D : List Nat) (G : Nat → Value → World → Prop) (hN : Nat.beq l.length N = true) (hm : P.follows .mixedOrders = true) (hd : noDefers l.toArray = true) (hp : preOk l.toArray k = true)
  (hng : ((l.take k).all fun o => o.guard.isNone) = true) (hD : diffB D = true) (hDl : Nat.beq D.length k = true) (hk : Nat.beq (k + m) N = true) (hG : ∀ i v A B, G i v A → Below A.heap.size A B → G i v B)
  (hop : ∀ w', Below w.heap.size w w' → OpsOk P n l.toArray w' s D G 0 (l.take k))
  (h : ∀ w' s1 w1, Below w.heap.size w w' → Below w'.heap.size w' w1 → s1.ds = s.ds → (∀ t, D.contains t = false → s1.f t = s.f t) → (∀ i, i < k → G i (s1.f (dOf D i)) w1) → Li P n l.toArray Q m (preL k N) s1 w1) : W r P n (.region id l.toArray true) Q s w := by
 refine W_draws N hN hm hd fun w' hw' => ?_
 obtain rfl := Nat.eq_of_beq_eq_true hN
 have hk := Nat.eq_of_beq_eq_true hk
 have hDl := Nat.eq_of_beq_eq_true hDl
 have ho := hop w' hw'
 have key := inv_any (P := P) (n := n) (ops := l.toArray) (w0 := w') (s0 := s) (D := D) (G := G) (Q := Q) (fuel := m) hp (by simp; omega) hD hDl (fun i o hi he => by
   have he : l[i]? = some o := by simpa using he
   have a : (l.take k)[i]? = some o := by rw [List.getElem?_take, if_pos hi]; exact he
   have := List.all_eq_true.1 hng o (List.mem_of_getElem? a)
   exact Option.isNone_iff_eq_none.1 this) hG (fun i o hi he => by
   have he : l[i]? = some o := by simpa using he
   have a : (l.take k)[i]? = some o := by rw [List.getElem?_take, if_pos hi]; exact he
   have := ops_at _ 0 i o ho a
   rw [Nat.zero_add] at this; exact this)
  (fun s1 w1 hv => by
   have e : l.toArray.size = l.length := by simp
   rw [e] at hv ⊢
   exact h w' s1 w1 hw' hv.1 hv.2.1 hv.2.2.1 (fun i hi => hv.2.2.2 i hi (by
    rw [getD_tf (by simp [preL]; omega), getD_preL (by omega)]; exact decide_eq_true hi)))
  k (Array.replicate l.length false) s w' (by have := PreI.zero (ops := l.toArray) (k := k); simpa using this) (unl_all k (by omega)) ⟨Below.refl _ _, rfl, fun t _ => rfl, fun i hi hl => by simp [show i < l.length by omega] at hl⟩
 rw [hk] at key
 exact key
end
theorem yM {s : Fm} {i : Nat} {v : Value} (h : s.f i = v) : s.put (some i) v = s := by
 cases s with
 | mk f ds =>
  simp only [Fm.put, Fm.mk.injEq, and_true]
  funext j
  cases hj : Nat.beq j i with
  | false => rfl
  | true => rw [Nat.eq_of_beq_eq_true hj]; exact h.symm
theorem yK {s : Fm} {d t : Nat} {v : Value} (h : t ≠ d) : (s.put (some d) v).f t = s.f t := by
 have : Nat.beq t d = false := by
  cases hb : Nat.beq t d with
  | false => rfl
  | true => exact absurd (Nat.eq_of_beq_eq_true hb) h
 simp only [Fm.put, this]; rfl
theorem xB {s : Fm} {d : Option Nat} {v : Value} : (s.put d v).ds = s.ds := by cases d <;> rfl
theorem put_here {s : Fm} {d : Nat} {v : Value} : (s.put (some d) v).f d = v := by
 have : Nat.beq d d = true := Nat.beq_refl d
 simp only [Fm.put, this]; rfl
def putL (s : Fm) : List Nat → List Value → Fm
  | d :: ds, v :: vs => putL (s.put (some d) v) ds vs
  | _, _ => s
def AllAt (s : Fm) : List Nat → List Value → Prop
  | d :: ds, v :: vs => s.f d = v ∧ AllAt s ds vs
  | _, _ => True
theorem putL_ds : ∀ (ds : List Nat) (vs : List Value) (s : Fm), (putL s ds vs).ds = s.ds
 | [], _, _ => rfl
 | _ :: _, [], _ => rfl
 | d :: ds, v :: vs, s => by rw [putL, putL_ds ds vs]; rfl
theorem putL_at {s3 : Fm} : ∀ (ds : List Nat) (vs : List Value) (s : Fm), ds.length = vs.length → AllAt s3 ds vs → ∀ t, (putL s ds vs).f t = s3.f t ∨ (ds.contains t = false ∧ (putL s ds vs).f t = s.f t)
 | [], [], s, _, _, t => .inr ⟨rfl, rfl⟩
 | d :: ds, v :: vs, s, hl, ha, t => by
  rcases putL_at ds vs (s.put (some d) v) (by simpa using hl) ha.2 t with h | ⟨b, a⟩
  ·exact .inl h
  ·by_cases e : t = d
   ·subst e
    left
    show (putL (s.put (some t) v) ds vs).f t = _
    rw [a, put_here]; exact ha.1.symm
   ·right
    refine ⟨?_, ?_⟩
    ·rw [List.contains_cons, b, Bool.or_false]; exact beq_false_of_ne e
    ·show (putL (s.put (some d) v) ds vs).f t = _
     rw [a, yK e]
theorem frm_eq {s s3 : Fm} (ds : List Nat) (vs : List Value) (hl : ds.length = vs.length) (hd : s3.ds = s.ds) (hf : ∀ t, ds.contains t = false → s3.f t = s.f t) (hv : AllAt s3 ds vs) : s3 = putL s ds vs := by
 have c := putL_at ds vs s hl hv
 have b := putL_ds ds vs s
 have a : s3.f = (putL s ds vs).f := funext fun t => by
  rcases c t with h | ⟨h, h'⟩
  ·exact h.symm
  ·rw [h', hf t h]
 cases s3 with
 | mk f3 d3 =>
  cases hp : putL s ds vs with
  | mk f4 d4 =>
   rw [hp] at b a
   simp only at b a hd
   rw [a, hd, b]
def gOf (Gs : List (Value → World → Prop)) (i : Nat) : Value → World → Prop := Gs.getD i (fun _ _ => True)
def AllSt : List (Value → World → Prop) → Prop
  | [] => True
  | p :: l => (∀ v A B, p v A → Below A.heap.size A B → p v B) ∧ AllSt l
theorem allSt_of : ∀ (Gs : List (Value → World → Prop)), AllSt Gs → ∀ i v A B, gOf Gs i v A → Below A.heap.size A B → gOf Gs i v B
 | [], _, i, v, A, B, _, _ => by simp [gOf]
 | p :: l, h, 0, v, A, B, hp, hb => h.1 v A B hp hb
 | p :: l, h, i + 1, v, A, B, hp, hb => allSt_of l h.2 i v A B hp hb
section
variable {P : Program} {n : Nat} {Q : Post} {s : Fm} {w : World}
theorem W_invL {r : Option Nat} {id : Nat} {l : List Oper} (k N m : Nat) (D : List Nat) (Gs : List (Value → World → Prop)) (hN : Nat.beq l.length N = true) (hm : P.follows .mixedOrders = true) (hd : noDefers l.toArray = true) (hp : preOk l.toArray k = true)
  (hng : ((l.take k).all fun o => o.guard.isNone) = true) (hD : diffB D = true) (hDl : Nat.beq D.length k = true) (hk : Nat.beq (k + m) N = true) (hG : AllSt Gs)
  (hop : ∀ w', Below w.heap.size w w' → OpsOk P n l.toArray w' s D (gOf Gs) 0 (l.take k))
  (h : ∀ w' s1 w1, Below w.heap.size w w' → Below w'.heap.size w' w1 → s1.ds = s.ds → (∀ t, D.contains t = false → s1.f t = s.f t) → (∀ i, i < k → gOf Gs i (s1.f (dOf D i)) w1) → Li P n l.toArray Q m (preL k N) s1 w1) : W r P n (.region id l.toArray true) Q s w :=
 W_inv k N m D (gOf Gs) hN hm hd hp hng hD hDl hk (allSt_of Gs hG) hop h
end
end Go.FK
end

/- === FKaf === -/
section
/- FKaf: the rest of a division of whole numbers, below zero too. My own text. -/
namespace Go.FK
open Go Go.RowKit
section
variable {r : Option Nat} {P : Program} {n : Nat} {Q : Post} {s : Fm} {w : World} {ops : Array Oper} {rest : List Oper}
variable {d : Option Tmp} {ty : TypeId} {pos : String} {af : Array Edge}
end
end Go.FK
end

/- === FKag === -/
section
/- FKag: a range over an iterator inside an iterator: the first round comes behind blocks of its own. My own text; W_rangeN is W_range (FKg) with one fact more handed on. -/
namespace Go.FK
open Go Go.RowKit
theorem Kp.trans {K0 K : Nat} {A B C : World} (h : Kp K0 K A B) (k : Kp K0 K B C) : Kp K0 K A C := ⟨Nat.le_trans h.size k.size, fun i hi => (k.same i hi).trans (h.same i hi)⟩
section
variable {P : Program} {n : Nat} {Q : Post} {s : Fm} {w : World}
end
end Go.FK
end

/- === FKah === -/
section
/- FKah: an iterator whose rounds may lay blocks of its own that outlast the caller's turn: the caller's round leaves alone what was laid since its last turn. My own text; W_range2 is W_range (FKg) with that promise. -/
namespace Go.FK
open Go Go.RowKit
section
variable {r : Option Nat} {P : Program} {n : Nat} {Q : Post} {s : Fm} {w : World} {ops : Array Oper} {rest : List Oper}
variable {d : Option Tmp} {ty : TypeId} {pos : String} {af : Array Edge}
theorem L_yieldR {op : Op} {R : Ending → World → Prop} (l : Nat) (args : List Value) (hrun : (execOp (s.ev n) ⟨d, op, ty, pos, af, none⟩).run P w = (Instr.yield l args.toArray).run P w) (hd : notDefer op = true)
  (hy : YieldAt (Fw none) 0 P l args.toArray w R) (hR : ∀ e w', R e w' → ∃ b, e = .returned (.bool b) ∧ L r P n ops Q rest (s.put d (.bool b)) w') : L r P n ops Q (⟨d, op, ty, pos, af, none⟩ :: rest) s w := by
 obtain ⟨fn, tmps, assign, body, hyr, hround⟩ := hy
 have c : (execOp (s.ev n) ⟨d, op, ty, pos, af, none⟩).run P w = .ok (.round l fn tmps assign body) w := hrun.trans hyr
 refine L_step rfl (wT hd) ?_
 rw [c]
 refine ⟨fun hx => by simp [Fw] at hx, ?_⟩
 have a : RoundIn (Fw r) 0 P l fn tmps assign body w R := hround
 refine (round_any rfl a).mono ?_
 intro e w' hr
 obtain ⟨b, rfl, hL⟩ := hR e w' hr
 show wpListIn (Fw r) 0 P ops (upQ n Q) rest ((s.act n).put d (.bool b)) w'
 rw [xZ]; exact L_iff.1 hL
end
def Iter2 {α : Type} (P : Program) (g : FuncId) (lb : List Value) (encs : α → List Value) (els : List α) (N : World → Prop) : Prop :=
  ∀ (l : Nat) (J Jx : Nat → List α → World → Prop) (w : World), N w →
    (∀ A, Below w.heap.size w A → J A.heap.size [] A) →
    (∀ K pre A B, J K pre A → Ch (Iv w.heap.size K) A B → J K pre B) →
    (∀ K pre A B, Jx K pre A → Ch (Iv w.heap.size K) A B → Jx K pre B) →
    (∀ K pre x A0 A, J K pre A0 → Ch (Iv w.heap.size K) A0 A → N A → w.heap.size ≤ K → K ≤ A0.heap.size → pre ++ [x] <+: els → YieldAt (Fw none) 0 P l (encs x).toArray A fun e A' =>
      (e = .returned (.bool true) ∧ J K (pre ++ [x]) A' ∧ Kp w.heap.size K A A' ∧ Kp A0.heap.size A.heap.size A A' ∧ N A') ∨ (e = .returned (.bool false) ∧ Jx K (pre ++ [x]) A' ∧ Kp w.heap.size K A A')) →
    Calls P g (.func (.yield l) #[] #[] :: lb).toArray w (Ret fun _ w' => w.heap.size ≤ w'.heap.size ∧ ((∃ K, J K els w') ∨ (∃ K pre x, pre ++ [x] <+: els ∧ Jx K (pre ++ [x]) w')))
def roundQ2 {α : Type} (K0 K K1 K2 : Nat) (I : Nat → List α → World → Prop) (Ix : Nat → Code → List α → World → Prop) (N : World → Prop) (xs : List α) (w2 : World) : Post
  | .normal, _, w3 => Kp K0 K w2 w3 ∧ Kp K1 K2 w2 w3 ∧ I K xs w3 ∧ N w3
  | .ret, _, w3 => Kp K0 K w2 w3 ∧ Ix K .ret xs w3
  | .exit id, _, w3 => Kp K0 K w2 w3 ∧ Ix K (.exit id) xs w3
  | .goto t, _, w3 => Kp K0 K w2 w3 ∧ Ix K (.goto t) xs w3
  | _, _, _ => False
section
variable {α : Type} {K0 K K1 K2 : Nat} {I : Nat → List α → World → Prop} {Ix : Nat → Code → List α → World → Prop} {N : World → Prop} {xs : List α} {w2 w3 : World} {s : Fm}
end
section
variable {P : Program} {n : Nat} {Q : Post} {s : Fm} {w : World}
end
end Go.FK
end

/- === FKap === -/
section
/- FKap: regions that draw their order, in a round or not: a load that reads what nobody in the region writes ahead of its last operation m is taken first. As the kit's OrdersHeld, inside a fence, and the condition on the world is not asked behind m. My own text. -/
namespace Go.FK
open Go Go.RowKit
section
variable {P : Program} {ops : Array Oper} {Q : Exit → Act → World → Prop} {S : World → Prop} {m : Nat}
def wpAnyJ (P : Program) (ops : Array Oper) (Q : Exit → Act → World → Prop) (S : World → Prop) (m : Nat) : Nat → Array Bool → Act → World → Prop
  | 0, listed, a, w => Region.ready .any ops listed = [] ∧ Q .normal a w
  | fuel + 1, listed, a, w => (Region.ready .any ops listed = [] → Q .normal a w) ∧
    ∀ i ∈ Region.ready .any ops listed, wpOpIn (Fw none) 0 P ops Q i (fun a' w' => (i = m ∨ S w') ∧ wpAnyJ P ops Q S m fuel (listed.setIfInBounds i true) a' w') a w
theorem wpAnyIn_of_J : ∀ (fuel : Nat) (listed : Array Bool) (a : Act) (w : World), wpAnyJ P ops Q S m fuel listed a w → wpAnyIn (Fw none) 0 P .any ops Q fuel listed a w
 | 0, _, _, _, h => h
 | fuel + 1, _, _, _, h => ⟨h.1, fun i hi => wpOpIn_mono (fun a' w' h' => wpAnyIn_of_J fuel _ a' w' h'.2) (h.2 i hi)⟩
def YieldsJ (P : Program) (ops : Array Oper) (S : World → Prop) (o : Oper) (v : Value) (a : Act) : Prop := YieldsIf P ops S o v a ∧ ∀ w, o.about P w a.eval = none
theorem YieldsJ.wpOpIn {i : Nat} {o : Oper} {v : Value} {a : Act} (hi : ops[i]? = some o) (hy : YieldsJ P ops S o v a) {K : Act → World → Prop} {w : World} (hS : S w) (h : K (a.put o.dst v) w) : wpOpIn (Fw none) 0 P ops Q i K a w := by
 unfold Go.wpOpIn
 simp only [hi]
 have hab : ∀ f, o.about P w a.eval = some f → (Fw none).fn f := fun f hf => by rw [hy.2 w] at hf; cases hf
 have hro : (Fw none).round = none := rfl
 rcases hy.1 with ⟨hw, hv⟩ | ⟨hw, rfl⟩
 ·simp only [hw, if_true, Oper.wpIn, hro, Oper.semAt_none, hv w hS, Oper.uponIn]; exact ⟨hab, h⟩
 ·simp only [hw, Bool.false_eq_true, if_false]; exact ⟨hab, h⟩
theorem YieldsJ.of_same {o : Oper} {v : Value} {a a' : Act} (hy : YieldsJ P ops S o v a) (he : execOp a'.eval o = execOp a.eval o)
  (hw : Region.wanted o (yielded ops a'.tmps) = Region.wanted o (yielded ops a.tmps)) (hb : ∀ w, o.about P w a'.eval = o.about P w a.eval) : YieldsJ P ops S o v a' :=
 ⟨hy.1.of_same he hw, fun w => by rw [hb w]; exact hy.2 w⟩
theorem wpOpIn_putJ {j : Nat} {oi oj : Oper} {v : Value} (hj : ops[j]? = some oj) (hap : oi.apart ops oj = true)
  (hsi : ∀ cs b, oi.op ≠ .select cs b) (hsj : ∀ cs b, oj.op ≠ .select cs b)
  (hQ : ∀ c a w, Q (.panic c) (a.put oi.dst v) w → Q (.panic c) a w) {K : Act → World → Prop} {a : Act} {w : World}
  (hy : YieldsJ P ops S oi v a) (h : wpOpIn (Fw none) 0 P ops Q j K (a.put oi.dst v) w) :
  wpOpIn (Fw none) 0 P ops Q j (fun a' w' => YieldsJ P ops S oi v a' ∧ K (a'.put oi.dst v) w') a w := by
 obtain ⟨i, g, k⟩ := Oper.apart_spec hap
 have hro : (Fw none).round = none := rfl
 have keep : ∀ (a : Act), YieldsJ P ops S oi v a → ∀ u, YieldsJ P ops S oi v (a.put oj.dst u) := fun a hy u =>
  hy.of_same (execOp_put oi hsi a oj.dst u k) (wanted_put oi a oj.dst u k) (fun w => about_put oi w a oj.dst u k)
 have keepD : ∀ d, YieldsJ P ops S oi v { a with defers := d :: a.defers } := fun d => hy.of_same rfl rfl (fun _ => rfl)
 unfold wpOpIn at *
 simp only [hj] at *
 rw [wanted_put oj a oi.dst v i, about_put oj w a oi.dst v i] at h
 split
 ·rename_i hw
  simp only [hw, if_true] at h
  unfold Oper.wpIn at *
  rw [about_put oj w a oi.dst v i] at h
  refine ⟨h.1, ?_⟩
  have h := h.2
  rw [hro, Oper.semAt_none, execOp_put oj hsj a oi.dst v i] at h
  rw [hro, Oper.semAt_none]
  generalize (execOp a.eval oj).run P w = r at *
  cases r with
  | ok x w' =>
   cases x <;> simp only [Oper.uponIn] at h ⊢
   case value u => exact ⟨keep a hy u, by rw [← Act.put_comm a v u g]; exact h⟩
   case skip => exact ⟨keep a hy _, by rw [← Act.put_comm a v undef g]; exact h⟩
   case defer d =>
    refine ⟨keep _ (keepD d) _, ?_⟩
    rw [← Act.put_comm _ v undef g, ← Act.put_defers]
    exact h
   case enter f args =>
    refine ⟨h.1, CallsIn.mono h.2 fun e w'' he => ?_⟩
    cases e with
    | returned u => exact ⟨keep a hy u, by rw [← Act.put_comm a v u g]; exact he⟩
    | panicked c => exact hQ _ _ _ he
    | outgrown => exact he
   case row row args => exact ⟨h.1, RowsIn.mono h.2 fun u w'' he => ⟨keep a hy u, by rw [← Act.put_comm a v u g]; exact he⟩⟩
   case round l f tmps assign body =>
    refine ⟨h.1, RoundIn.mono h.2 fun e w'' he => ?_⟩
    cases e with
    | returned u => exact ⟨keep a hy u, by rw [← Act.put_comm a v u g]; exact he⟩
    | panicked c => exact hQ _ _ _ he
    | outgrown => exact he
  | halt x w' =>
   cases x <;> simp only [Oper.uponIn] at h ⊢
   case panic u => exact hQ _ _ _ h
 ·rename_i hw
  simp only [hw] at h
  exact ⟨h.1, keep a hy _, by rw [← Act.put_comm a v undef g]; exact h.2⟩
def waitB (ops : Array Oper) (i : Nat) (B : List Nat) : Bool := B.all fun j => Nat.beq j i || (match ops[j]? with | some o => o.after.any (fun e => Region.binds .any e && B.contains e.on) | none => false)
def freeB (L : Array Bool) (B : List Nat) : Bool := B.all fun j => !L.getD j true
theorem free_at {L : Array Bool} {B : List Nat} (h : freeB L B = true) {j : Nat} (hj : j ∈ B) : L.getD j true = false := by
 have := List.all_eq_true.1 h j hj
 simpa using this
theorem not_ready {i j : Nat} {B : List Nat} {L : Array Bool} (hw : waitB ops i B = true) (hf : freeB L B = true) (hj : j ∈ Region.ready .any ops L) (hne : j ≠ i) : j ∉ B := fun hB => by
 have a := List.all_eq_true.1 hw j hB
 obtain ⟨_, o, ho, hall⟩ := mem_ready.1 hj
 rw [ho] at a
 simp only [Bool.or_eq_true] at a
 rcases a with a | a
 ·exact hne (Nat.eq_of_beq_eq_true a)
 ·obtain ⟨e, he, hb⟩ := Array.any_eq_true'.1 a
  simp only [Bool.and_eq_true] at hb
  have b := hall e he hb.1
  have c := free_at hf (List.contains_iff_mem.1 hb.2)
  rcases Nat.lt_or_ge e.on L.size with hs | hs
  ·simp [hs] at b c; rw [b] at c; cases c
  ·simp [Array.getElem?_eq_none hs] at b
theorem free_set {j : Nat} {B : List Nat} {L : Array Bool} (hf : freeB L B = true) (hj : j ∉ B) : freeB (L.setIfInBounds j true) B = true := by
 refine List.all_eq_true.2 fun k hk => ?_
 have := free_at hf hk
 have hjk : j ≠ k := fun e => hj (by rw [e]; exact hk)
 rw [getD_set_ne true hjk, this]; rfl
theorem wpAnyJ_first {i : Nat} {oi : Oper} {v : Value} {B : List Nat} (hi : ops[i]? = some oi) (hsel : ∀ (j : Nat) (o : Oper) cs b, ops[j]? = some o → o.op ≠ .select cs b)
  (hQ : ∀ c a w, Q (.panic c) (a.put oi.dst v) w → Q (.panic c) a w) (hw : waitB ops i B = true) (hm : m ∈ B) :
  ∀ (fuel : Nat) (listed : Array Bool) (a : Act) (w : World),
   (∀ j oj, ops[j]? = some oj → j ≠ i → listed.getD j true = false → (∀ e ∈ oj.after, Region.binds .any e = true → e.on ≠ i) → oi.apart ops oj = true) →
   i ∈ Region.ready .any ops listed → freeB listed B = true → YieldsJ P ops S oi v a → S w →
   wpAnyJ P ops Q S m fuel (listed.setIfInBounds i true) (a.put oi.dst v) w → wpAnyJ P ops Q S m (fuel + 1) listed a w := by
 intro fuel
 induction fuel with
 | zero =>
  intro listed a w _ hr hf hy hS H
  refine ⟨fun h => (by rw [h] at hr; cases hr), fun j hj => ?_⟩
  by_cases hji : j = i
  ·subst hji; exact hy.wpOpIn hi hS ⟨.inr hS, H⟩
  ·have := ready_mono hj hji
   rw [H.1] at this
   cases this
 | succ fuel ih =>
  intro listed a w hfree hr hf hy hS H
  refine ⟨fun h => (by rw [h] at hr; cases hr), fun j hj => ?_⟩
  by_cases hji : j = i
  ·subst hji; exact hy.wpOpIn hi hS ⟨.inr hS, H⟩
  ·have d := H.2 j (ready_mono hj hji)
   obtain ⟨hjun, oj, hoj, hall⟩ := mem_ready.1 hj
   have hnot : ∀ e ∈ oj.after, Region.binds .any e = true → e.on ≠ i := fun e he hb heq => by
    have d := hall e he hb
    have f := (mem_ready.1 hr).1
    rw [heq] at d
    rcases Nat.lt_or_ge i listed.size with h' | h'
    ·simp [h'] at f d; rw [f] at d; cases d
    ·simp [Array.getElem?_eq_none h'] at d
   have g := wpOpIn_putJ hoj (hfree j oj hoj hji hjun hnot) (fun cs b => hsel i oi cs b hi) (fun cs b => hsel j oj cs b hoj) hQ hy d
   have hjB := not_ready hw hf hj hji
   have hfree' : ∀ k ok, ops[k]? = some ok → k ≠ i → (listed.setIfInBounds j true).getD k true = false →
     (∀ e ∈ ok.after, Region.binds .any e = true → e.on ≠ i) → oi.apart ops ok = true := fun k ok hk hki hun hno => by
    refine hfree k ok hk hki ?_ hno
    by_cases hjk : j = k
    ·subst hjk; exact hjun
    ·rw [getD_set_ne true hjk] at hun; exact hun
   refine wpOpIn_mono (fun a' w' h3 => ?_) g
   obtain ⟨hy', hjm, hk⟩ := h3
   have hS' : S w' := hjm.resolve_left (fun e => hjB (e ▸ hm))
   refine ⟨.inr hS', ih (listed.setIfInBounds j true) a' w' hfree' (ready_mono hr (Ne.symm hji)) (free_set hf hjB) hy' hS' ?_⟩
   rw [Array.setIfInBounds_comm _ _ hji]
   exact hk
end
section
variable {P : Program} {n : Nat} {Q : Post} {s : Fm} {w : World} {ops : Array Oper} {S : World → Prop} {m fuel : Nat} {listed : Array Bool}
def Lj (P : Program) (n : Nat) (ops : Array Oper) (Q : Post) (S : World → Prop) (m fuel : Nat) (listed : Array Bool) (s : Fm) (w : World) : Prop := wpAnyJ P ops (upQ n Q) S m fuel listed (s.act n) w
theorem W_heldJ {r : Option Nat} {id : Nat} {l : List Oper} (m N : Nat) (hN : Nat.beq l.length N = true) (hm : P.follows .mixedOrders = true) (hd : noDefers l.toArray = true)
  (h : ∀ w', Below w.heap.size w w' → ∃ S, Lj P n l.toArray Q S m N (Array.replicate N false) s w') : W r P n (.region id l.toArray true) Q s w := by
 refine W_draws N hN hm hd fun w' hw' => ?_
 obtain ⟨S, hS⟩ := h w' hw'
 unfold Li
 exact wpAnyIn_of_J _ _ _ _ hS
theorem J_take (i : Nat) (B : List Nat) {o : Oper} (v : Value) (hi : ops[i]? = some o) (hs : Region.noSelect ops = true) (hf : Region.free .any ops listed i = true) (hr : (Region.ready .any ops listed).contains i = true)
  (hc : noCall o.op = true) (hw : wantB ops n s o.guard = true) (hb : waitB ops i B = true) (hB : freeB listed B = true) (hm : B.contains m = true) (hq : NoPanic Q) (hS : S w) (hrun : RunOk P n o s S v) (h : Lj P n ops Q S m fuel (listed.setIfInBounds i true) (s.put o.dst v) w) : Lj P n ops Q S m (fuel + 1) listed s w := by
 unfold Lj at h ⊢
 refine wpAnyJ_first (v := v) hi (Region.noSelect_spec hs) ?_ hb (List.contains_iff_mem.1 hm) fuel listed (s.act n) w (Region.free_spec hi hf) (by simpa using hr) hB ⟨.inl ⟨?_, ?_⟩, fun w => about_none hc w _⟩ hS ?_
 ·intro c a w hp
  obtain ⟨s', _, hp⟩ := hp
  exact absurd hp (hq c s' w)
 ·rw [xX]; exact hw
 ·intro w' hw'; rw [xW]; exact hrun w' hw'
 ·rw [xZ]; exact h
theorem J_done (hr : Region.ready .any ops listed = []) (h : Q .normal s w) : Lj P n ops Q S m fuel listed s w := by
 unfold Lj
 cases fuel with
 | zero => exact ⟨hr, s, rfl, h⟩
 | succ k => exact ⟨fun _ => ⟨s, rfl, h⟩, by rw [hr]; simp⟩
def Jop (P : Program) (n : Nat) (ops : Array Oper) (Q : Post) (S : World → Prop) (m fuel : Nat) (listed : Array Bool) (i : Nat) (s : Fm) (w : World) : Prop :=
  wpOpIn (Fw none) 0 P ops (upQ n Q) i (fun a' w' => (i = m ∨ S w') ∧ wpAnyJ P ops (upQ n Q) S m fuel (listed.setIfInBounds i true) a' w') (s.act n) w
theorem J_all1 (i : Nat) (hr : Region.ready .any ops listed = [i]) (h : Jop P n ops Q S m fuel listed i s w) : Lj P n ops Q S m (fuel + 1) listed s w := by
 unfold Lj
 refine ⟨fun h0 => (by rw [hr] at h0; cases h0), fun j hj => ?_⟩
 rw [hr] at hj
 obtain rfl : j = i := by simpa using hj
 exact h
theorem J_all2 (i k : Nat) (hr : Region.ready .any ops listed = [i, k]) (h : Jop P n ops Q S m fuel listed i s w) (h2 : Jop P n ops Q S m fuel listed k s w) : Lj P n ops Q S m (fuel + 1) listed s w := by
 unfold Lj
 refine ⟨fun h0 => (by rw [hr] at h0; cases h0), fun j hj => ?_⟩
 rw [hr] at hj
 simp only [List.mem_cons, List.not_mem_nil, or_false] at hj
 rcases hj with rfl | rfl
 ·exact h
 ·exact h2
theorem J_op (i : Nat) {o : Oper} (hi : ops[i]? = some o)
  (h : L none P n ops (fun e s' w' => e = .normal ∧ (i = m ∨ S w') ∧ Lj P n ops Q S m fuel (listed.setIfInBounds i true) s' w') [o] s w) (hg : o.guard = none) : Jop P n ops Q S m fuel listed i s w := by
 unfold Jop wpOpIn
 rw [hi]
 rw [L_iff] at h
 unfold wpListIn at h
 have hwant : Region.wanted o (yielded ops (s.act n).tmps) = true := by rw [xX, hg]; rfl
 rw [if_pos hwant] at h
 simp only [hwant, if_true]
 have key : ∀ {a w'}, wpListIn (Fw none) 0 P ops (upQ n fun e s' w' => e = .normal ∧ (i = m ∨ S w') ∧ Lj P n ops Q S m fuel (listed.setIfInBounds i true) s' w') [] a w' → ((i = m ∨ S w') ∧ wpAnyJ P ops (upQ n Q) S m fuel (listed.setIfInBounds i true) a w') := by
  rintro a w' ⟨s', rfl, _, hL⟩
  exact hL
 have h := Oper.wpIn_mono (fun a w => key) h
 unfold Oper.wpIn at h ⊢
 refine ⟨h.1, ?_⟩
 have b := h.2
 generalize (o.semAt (Fw none).round (s.act n).eval).run P w = r at b
 cases r with
 | ok x w' =>
  cases x <;> simp only [Oper.uponIn] at b ⊢ <;> first
   | exact b
   | exact ⟨b.1, CallsIn.mono b.2 (fun e w'' he => by
     cases e with
     | returned v => exact he
     | panicked c => obtain ⟨s', _, he, _⟩ := he; cases he
     | outgrown => exfalso; obtain ⟨_, _, s', _, he, _⟩ := he; cases he)⟩
   | exact ⟨b.1, RoundIn.mono b.2 (fun e w'' he => by
     cases e with
     | returned v => exact he
     | panicked c => obtain ⟨s', _, he, _⟩ := he; cases he
     | outgrown => exfalso; obtain ⟨_, _, s', _, he, _⟩ := he; cases he)⟩
 | halt x w' =>
  cases x <;> first
   | (exfalso; simp only [Oper.uponIn] at b; obtain ⟨s', _, he, _⟩ := b; cases he)
   | exact b
end
section
variable {P : Program} {n : Nat} {Q : Post} {s : Fm} {w : World} {ops : Array Oper} {S : World → Prop} {m fuel : Nat} {listed : Array Bool}
theorem jt (i : Nat) (B : List Nat) {o : Oper} (hi : ops[i]? = some o) (v : Value) (hS : S w) (hrun : RunOk P n o s S v) (h : Lj P n ops Q S m fuel (listed.setIfInBounds i true) (s.put o.dst v) w)
  (hs : Region.noSelect ops = true := by kernel_rfl) (hf : Region.free .any ops listed i = true := by kernel_rfl) (hr : (Region.ready .any ops listed).contains i = true := by kernel_rfl) (hc : noCall o.op = true := by kernel_rfl) (hw : wantB ops n s o.guard = true := by kernel_rfl) (hb : waitB ops i B = true := by kernel_rfl) (hB : freeB listed B = true := by kernel_rfl) (hm : B.contains m = true := by kernel_rfl)
  (hq : NoPanic Q := by with_reducible first | exact zJ | exact yX | exact wD) : Lj P n ops Q S m (fuel + 1) listed s w :=
 J_take i B v hi hs hf hr hc hw hb hB hm hq hS hrun h
theorem jp (i : Nat) (B : List Nat) {o : Oper} (hi : ops[i]? = some o) (v : Value) (hS : S w) (h : Lj P n ops Q S m fuel (listed.setIfInBounds i true) (s.put o.dst v) w)
  (hs : Region.noSelect ops = true := by kernel_rfl) (hf : Region.free .any ops listed i = true := by kernel_rfl) (hr : (Region.ready .any ops listed).contains i = true := by kernel_rfl) (hc : noCall o.op = true := by kernel_rfl) (hw : wantB ops n s o.guard = true := by kernel_rfl) (hb : waitB ops i B = true := by kernel_rfl) (hB : freeB listed B = true := by kernel_rfl) (hm : B.contains m = true := by kernel_rfl)
  (hq : NoPanic Q := by with_reducible first | exact zJ | exact yX | exact wD) (hrun : RunOk P n o s S v := by exact fun _ _ => by kernel_rfl) : Lj P n ops Q S m (fuel + 1) listed s w :=
 J_take i B v hi hs hf hr hc hw hb hB hm hq hS hrun h
end
attribute [irreducible] Jop Lj
end Go.FK
end

/- === FKbc === -/
section
/- FKbc: in a region whose operations may come in any order: numbers added, the address of an element: they hang on no world. My own text. -/
namespace Go.FK
open Go Go.RowKit
section
variable {P : Program} {n : Nat} {s : Fm} {d : Option Tmp} {ty : TypeId} {pos : String} {af : Array Edge} {g : Option (Nat × Bool)}
theorem RI_arith {op : BinOp} {t yt : TypeId} {X Y : Operand} {k : IntKind} (x y z : Int) (hop : isArith op = true) (hx : s.ev n X = .int k x) (hy : s.ev n Y = .int k y) (hz : k.wrap (arithZ op x y) = z) :
  ∀ w', (execOp (s.ev n) ⟨d, .binOp op t X Y yt, ty, pos, af, g⟩).run P w' = .ok (.value (.int k z)) w' := by
 intro w'
 have b : (binOp op t (.int k x) (.int k y)).run P w' = .ok (.int k z) w' := by
  subst hz
  cases op <;> first | (simp [isArith] at hop; done) | (simp [binOp, Op.intArith, arithZ, Sem.run_pure])
 have a := xQ (P := P) (w := w') (op := op) (t := t) (k := k) (x := x) (k' := k) (y := y)
 simp only [execOp, hx, hy, Sem.run_bind, b, a, Result.andThen_ok, Sem.run_pure]
theorem RI_subN {t yt : TypeId} {X Y : Operand} (a b : Nat) (hb : b ≤ a) (ha : a ≤ 9223372036854775807) (hx : s.ev n X = .int .i64 a) (hy : s.ev n Y = .int .i64 b) :
  ∀ w', (execOp (s.ev n) ⟨d, .binOp .sub t X Y yt, ty, pos, af, g⟩).run P w' = .ok (.value (.int .i64 ((a - b : Nat) : Int))) w' :=
 RI_arith a b _ rfl hx hy (by rw [show arithZ .sub (a : Int) b = ((a - b : Nat) : Int) by simp [arithZ]; omega]; exact xP _ (by omega) (by omega))
end
theorem Rd.later {α : Type} {w : World} {k : Nat} {enc : α → List Value} {v : Value} {xs : List α} (h : Rd w enc v xs) (hk : ∀ x, (enc x).length = k) {i : Nat} {x : α} {g off m : Nat} (hl : Lies v g off m) (hx : xs[i]? = some x) :
  ∀ j u, (enc x)[j]? = some u → w.cell? ⟨g, off + i * k + j, none⟩ = some u := by
 obtain ⟨e, a, ⟨f, b⟩, d⟩ := h.at hk hx
 obtain ⟨c, rfl⟩ := hl
 injection b with e1 _ _
 injection e1 with e1
 injection e1 with e2 e3
 subst e2 e3
 exact d
section
variable {P : Program} {n : Nat} {s : Fm} {d : Option Tmp} {ty : TypeId} {pos : String} {af : Array Edge} {g : Option (Nat × Bool)} {S : World → Prop}
theorem R_ixaddrZ {X I : Operand} {k : IntKind} {T E ke bytes : Nat} (v : Value) (z : Int) (i m b off : Nat) (hz : z = (i : Int)) (he : Elem P T E ke bytes) (hl : Lies v b off m) (him : i < m) (hx : s.ev n X = v) (hi : s.ev n I = .int k z) :
  RunOk P n ⟨d, .indexAddr T X I, ty, pos, af, g⟩ s S (.pointer (some ⟨b, off + i * ke, none⟩)) := by
 subst hz; exact R_ixaddr v i m b off he hl him hx hi
end
end Go.FK
end

/- === FKbd === -/
section
/- FKbd: regions that draw their order, as FKap, but the condition on the world is asked only until the operation m has come; an operation that hangs on no world is taken first, whoever waits for it; a look into a map; a map copied, a map taken back out of an interface. My own text. -/
namespace Go.FK
open Go Go.RowKit Go.Proofs
section
variable {P : Program} {ops : Array Oper} {Q : Exit → Act → World → Prop} {S : World → Prop} {m : Nat}
def wpAnyM (P : Program) (ops : Array Oper) (Q : Exit → Act → World → Prop) (S : World → Prop) (m : Nat) : Nat → Array Bool → Act → World → Prop
  | 0, listed, a, w => Region.ready .any ops listed = [] ∧ Q .normal a w
  | fuel + 1, listed, a, w => (Region.ready .any ops listed = [] → Q .normal a w) ∧
    ∀ i ∈ Region.ready .any ops listed, wpOpIn (Fw none) 0 P ops Q i (fun a' w' => ((listed.setIfInBounds i true).getD m true = true ∨ S w') ∧ wpAnyM P ops Q S m fuel (listed.setIfInBounds i true) a' w') a w
theorem wpAnyIn_of_M : ∀ (fuel : Nat) (listed : Array Bool) (a : Act) (w : World), wpAnyM P ops Q S m fuel listed a w → wpAnyIn (Fw none) 0 P .any ops Q fuel listed a w
 | 0, _, _, _, h => h
 | fuel + 1, _, _, _, h => ⟨h.1, fun i hi => wpOpIn_mono (fun a' w' h' => wpAnyIn_of_M fuel _ a' w' h'.2) (h.2 i hi)⟩
theorem wpAnyM_first {i : Nat} {oi : Oper} {v : Value} {B : List Nat} (hi : ops[i]? = some oi) (hsel : ∀ (j : Nat) (o : Oper) cs b, ops[j]? = some o → o.op ≠ .select cs b)
  (hQ : ∀ c a w, Q (.panic c) (a.put oi.dst v) w → Q (.panic c) a w) (hw : waitB ops i B = true) (hm : m ∈ B) (hmi : m ≠ i) :
  ∀ (fuel : Nat) (listed : Array Bool) (a : Act) (w : World),
   (∀ j oj, ops[j]? = some oj → j ≠ i → listed.getD j true = false → (∀ e ∈ oj.after, Region.binds .any e = true → e.on ≠ i) → oi.apart ops oj = true) →
   i ∈ Region.ready .any ops listed → freeB listed B = true → YieldsJ P ops S oi v a → S w →
   wpAnyM P ops Q S m fuel (listed.setIfInBounds i true) (a.put oi.dst v) w → wpAnyM P ops Q S m (fuel + 1) listed a w := by
 intro fuel
 induction fuel with
 | zero =>
  intro listed a w _ hr hf hy hS H
  refine ⟨fun h => (by rw [h] at hr; cases hr), fun j hj => ?_⟩
  by_cases hji : j = i
  ·subst hji; exact hy.wpOpIn hi hS ⟨.inr hS, H⟩
  ·have := ready_mono hj hji
   rw [H.1] at this
   cases this
 | succ fuel ih =>
  intro listed a w hfree hr hf hy hS H
  refine ⟨fun h => (by rw [h] at hr; cases hr), fun j hj => ?_⟩
  by_cases hji : j = i
  ·subst hji; exact hy.wpOpIn hi hS ⟨.inr hS, H⟩
  ·have d := H.2 j (ready_mono hj hji)
   obtain ⟨hjun, oj, hoj, hall⟩ := mem_ready.1 hj
   have hnot : ∀ e ∈ oj.after, Region.binds .any e = true → e.on ≠ i := fun e he hb heq => by
    have d := hall e he hb
    have f := (mem_ready.1 hr).1
    rw [heq] at d
    rcases Nat.lt_or_ge i listed.size with h' | h'
    ·simp [h'] at f d; rw [f] at d; cases d
    ·simp [Array.getElem?_eq_none h'] at d
   have g := wpOpIn_putJ hoj (hfree j oj hoj hji hjun hnot) (fun cs b => hsel i oi cs b hi) (fun cs b => hsel j oj cs b hoj) hQ hy d
   have hfree' : ∀ k ok, ops[k]? = some ok → k ≠ i → (listed.setIfInBounds j true).getD k true = false →
     (∀ e ∈ ok.after, Region.binds .any e = true → e.on ≠ i) → oi.apart ops ok = true := fun k ok hk hki hun hno => by
    refine hfree k ok hk hki ?_ hno
    by_cases hjk : j = k
    ·subst hjk; exact hjun
    ·rw [getD_set_ne true hjk] at hun; exact hun
   refine wpOpIn_mono (fun a' w' h3 => ?_) g
   obtain ⟨hy', hjm, hk⟩ := h3
   rw [Array.setIfInBounds_comm _ _ (Ne.symm hji), getD_set_ne true (Ne.symm hmi)] at hjm
   have hjB := not_ready hw hf hj hji
   have hS' : S w' := by
    rcases hjm with hjm | hjm
    ·rw [getD_set_ne true (fun e : j = m => hjB (by rw [e]; exact hm)), free_at hf hm] at hjm; cases hjm
    ·exact hjm
   refine ⟨hjm, ih (listed.setIfInBounds j true) a' w' hfree' (ready_mono hr (Ne.symm hji)) (free_set hf hjB) hy' hS' ?_⟩
   rw [Array.setIfInBounds_comm _ _ hji]
   exact hk
theorem wpAnyM_pure {i : Nat} {oi : Oper} {v : Value} (hi : ops[i]? = some oi) (hsel : ∀ (j : Nat) (o : Oper) cs b, ops[j]? = some o → o.op ≠ .select cs b)
  (hQ : ∀ c a w, Q (.panic c) (a.put oi.dst v) w → Q (.panic c) a w) (hmi : m ≠ i) :
  ∀ (fuel : Nat) (listed : Array Bool) (a : Act) (w : World),
   (∀ j oj, ops[j]? = some oj → j ≠ i → listed.getD j true = false → (∀ e ∈ oj.after, Region.binds .any e = true → e.on ≠ i) → oi.apart ops oj = true) →
   i ∈ Region.ready .any ops listed → YieldsJ P ops (fun _ => True) oi v a → (listed.getD m true = true ∨ S w) →
   wpAnyM P ops Q S m fuel (listed.setIfInBounds i true) (a.put oi.dst v) w → wpAnyM P ops Q S m (fuel + 1) listed a w := by
 intro fuel
 induction fuel with
 | zero =>
  intro listed a w _ hr hy hS H
  refine ⟨fun h => (by rw [h] at hr; cases hr), fun j hj => ?_⟩
  by_cases hji : j = i
  ·subst hji; exact hy.wpOpIn hi trivial ⟨by rw [getD_set_ne true (Ne.symm hmi)]; exact hS, H⟩
  ·have := ready_mono hj hji
   rw [H.1] at this
   cases this
 | succ fuel ih =>
  intro listed a w hfree hr hy hS H
  refine ⟨fun h => (by rw [h] at hr; cases hr), fun j hj => ?_⟩
  by_cases hji : j = i
  ·subst hji; exact hy.wpOpIn hi trivial ⟨by rw [getD_set_ne true (Ne.symm hmi)]; exact hS, H⟩
  ·have d := H.2 j (ready_mono hj hji)
   obtain ⟨hjun, oj, hoj, hall⟩ := mem_ready.1 hj
   have hnot : ∀ e ∈ oj.after, Region.binds .any e = true → e.on ≠ i := fun e he hb heq => by
    have d := hall e he hb
    have f := (mem_ready.1 hr).1
    rw [heq] at d
    rcases Nat.lt_or_ge i listed.size with h' | h'
    ·simp [h'] at f d; rw [f] at d; cases d
    ·simp [Array.getElem?_eq_none h'] at d
   have g := wpOpIn_putJ hoj (hfree j oj hoj hji hjun hnot) (fun cs b => hsel i oi cs b hi) (fun cs b => hsel j oj cs b hoj) hQ hy d
   have hfree' : ∀ k ok, ops[k]? = some ok → k ≠ i → (listed.setIfInBounds j true).getD k true = false →
     (∀ e ∈ ok.after, Region.binds .any e = true → e.on ≠ i) → oi.apart ops ok = true := fun k ok hk hki hun hno => by
    refine hfree k ok hk hki ?_ hno
    by_cases hjk : j = k
    ·subst hjk; exact hjun
    ·rw [getD_set_ne true hjk] at hun; exact hun
   refine wpOpIn_mono (fun a' w' h3 => ?_) g
   obtain ⟨hy', hjm, hk⟩ := h3
   rw [Array.setIfInBounds_comm _ _ (Ne.symm hji), getD_set_ne true (Ne.symm hmi)] at hjm
   skip
   refine ⟨hjm, ih (listed.setIfInBounds j true) a' w' hfree' (ready_mono hr (Ne.symm hji)) hy' hjm ?_⟩
   rw [Array.setIfInBounds_comm _ _ hji]
   exact hk
end
section
variable {P : Program} {n : Nat} {Q : Post} {s : Fm} {w : World} {ops : Array Oper} {S : World → Prop} {m fuel : Nat} {listed : Array Bool}
def Lm (P : Program) (n : Nat) (ops : Array Oper) (Q : Post) (S : World → Prop) (m fuel : Nat) (listed : Array Bool) (s : Fm) (w : World) : Prop := wpAnyM P ops (upQ n Q) S m fuel listed (s.act n) w
theorem wF {r : Option Nat} {id : Nat} {l : List Oper} (m N : Nat) (hN : Nat.beq l.length N = true) (hm : P.follows .mixedOrders = true) (hd : noDefers l.toArray = true)
  (h : ∀ w', Below w.heap.size w w' → ∃ S, Lm P n l.toArray Q S m N (Array.replicate N false) s w') : W r P n (.region id l.toArray true) Q s w := by
 refine W_draws N hN hm hd fun w' hw' => ?_
 obtain ⟨S, hS⟩ := h w' hw'
 unfold Li
 exact wpAnyIn_of_M _ _ _ _ hS
theorem M_take (i : Nat) (B : List Nat) {o : Oper} (v : Value) (hi : ops[i]? = some o) (hs : Region.noSelect ops = true) (hf : Region.free .any ops listed i = true) (hr : (Region.ready .any ops listed).contains i = true)
  (hc : noCall o.op = true) (hw : wantB ops n s o.guard = true) (hb : waitB ops i B = true) (hB : freeB listed B = true) (hm : B.contains m = true) (hmi : Nat.beq m i = false) (hq : NoPanic Q) (hS : S w) (hrun : RunOk P n o s S v) (h : Lm P n ops Q S m fuel (listed.setIfInBounds i true) (s.put o.dst v) w) : Lm P n ops Q S m (fuel + 1) listed s w := by
 unfold Lm at h ⊢
 refine wpAnyM_first (v := v) hi (Region.noSelect_spec hs) ?_ hb (List.contains_iff_mem.1 hm) (fun e => by rw [e, Nat.beq_refl] at hmi; cases hmi) fuel listed (s.act n) w (Region.free_spec hi hf) (by simpa using hr) hB ⟨.inl ⟨?_, ?_⟩, fun w => about_none hc w _⟩ hS ?_
 ·intro c a w hp
  obtain ⟨s', _, hp⟩ := hp
  exact absurd hp (hq c s' w)
 ·rw [xX]; exact hw
 ·intro w' hw'; rw [xW]; exact hrun w' hw'
 ·rw [xZ]; exact h
theorem M_pure (i : Nat) {o : Oper} (v : Value) (hi : ops[i]? = some o) (hs : Region.noSelect ops = true) (hf : Region.free .any ops listed i = true) (hr : (Region.ready .any ops listed).contains i = true)
  (hc : noCall o.op = true) (hw : wantB ops n s o.guard = true) (hmi : Nat.beq m i = false) (hq : NoPanic Q) (hS : listed.getD m true = true ∨ S w) (hrun : RunOk P n o s (fun _ => True) v) (h : Lm P n ops Q S m fuel (listed.setIfInBounds i true) (s.put o.dst v) w) : Lm P n ops Q S m (fuel + 1) listed s w := by
 unfold Lm at h ⊢
 refine wpAnyM_pure (v := v) hi (Region.noSelect_spec hs) ?_ (fun e => by rw [e, Nat.beq_refl] at hmi; cases hmi) fuel listed (s.act n) w (Region.free_spec hi hf) (by simpa using hr) ⟨.inl ⟨?_, ?_⟩, fun w => about_none hc w _⟩ hS ?_
 ·intro c a w hp
  obtain ⟨s', _, hp⟩ := hp
  exact absurd hp (hq c s' w)
 ·rw [xX]; exact hw
 ·intro w' hw'; rw [xW]; exact hrun w' hw'
 ·rw [xZ]; exact h
theorem yU (hr : Region.ready .any ops listed = []) (h : Q .normal s w) : Lm P n ops Q S m fuel listed s w := by
 unfold Lm
 cases fuel with
 | zero => exact ⟨hr, s, rfl, h⟩
 | succ k => exact ⟨fun _ => ⟨s, rfl, h⟩, by rw [hr]; simp⟩
def Mop (P : Program) (n : Nat) (ops : Array Oper) (Q : Post) (S : World → Prop) (m fuel : Nat) (listed : Array Bool) (i : Nat) (s : Fm) (w : World) : Prop :=
  wpOpIn (Fw none) 0 P ops (upQ n Q) i (fun a' w' => ((listed.setIfInBounds i true).getD m true = true ∨ S w') ∧ wpAnyM P ops (upQ n Q) S m fuel (listed.setIfInBounds i true) a' w') (s.act n) w
theorem yP (i : Nat) (hr : Region.ready .any ops listed = [i]) (h : Mop P n ops Q S m fuel listed i s w) : Lm P n ops Q S m (fuel + 1) listed s w := by
 unfold Lm
 refine ⟨fun h0 => (by rw [hr] at h0; cases h0), fun j hj => ?_⟩
 rw [hr] at hj
 obtain rfl : j = i := by simpa using hj
 exact h
theorem M_all2 (i k : Nat) (hr : Region.ready .any ops listed = [i, k]) (h : Mop P n ops Q S m fuel listed i s w) (h2 : Mop P n ops Q S m fuel listed k s w) : Lm P n ops Q S m (fuel + 1) listed s w := by
 unfold Lm
 refine ⟨fun h0 => (by rw [hr] at h0; cases h0), fun j hj => ?_⟩
 rw [hr] at hj
 simp only [List.mem_cons, List.not_mem_nil, or_false] at hj
 rcases hj with rfl | rfl
 ·exact h
 ·exact h2
theorem yZ (i : Nat) {o : Oper} (hi : ops[i]? = some o)
  (h : L none P n ops (fun e s' w' => e = .normal ∧ ((listed.setIfInBounds i true).getD m true = true ∨ S w') ∧ Lm P n ops Q S m fuel (listed.setIfInBounds i true) s' w') [o] s w) (hg : wantB ops n s o.guard = true) : Mop P n ops Q S m fuel listed i s w := by
 unfold Mop wpOpIn
 rw [hi]
 rw [L_iff] at h
 unfold wpListIn at h
 have hwant : Region.wanted o (yielded ops (s.act n).tmps) = true := by rw [xX]; exact hg
 rw [if_pos hwant] at h
 simp only [hwant, if_true]
 have key : ∀ {a w'}, wpListIn (Fw none) 0 P ops (upQ n fun e s' w' => e = .normal ∧ ((listed.setIfInBounds i true).getD m true = true ∨ S w') ∧ Lm P n ops Q S m fuel (listed.setIfInBounds i true) s' w') [] a w' → (((listed.setIfInBounds i true).getD m true = true ∨ S w') ∧ wpAnyM P ops (upQ n Q) S m fuel (listed.setIfInBounds i true) a w') := by
  rintro a w' ⟨s', rfl, _, hL⟩
  exact hL
 have h := Oper.wpIn_mono (fun a w => key) h
 unfold Oper.wpIn at h ⊢
 refine ⟨h.1, ?_⟩
 have b := h.2
 generalize (o.semAt (Fw none).round (s.act n).eval).run P w = r at b
 cases r with
 | ok x w' =>
  cases x <;> simp only [Oper.uponIn] at b ⊢ <;> first
   | exact b
   | exact ⟨b.1, CallsIn.mono b.2 (fun e w'' he => by
     cases e with
     | returned v => exact he
     | panicked c => obtain ⟨s', _, he, _⟩ := he; cases he
     | outgrown => exfalso; obtain ⟨_, _, s', _, he, _⟩ := he; cases he)⟩
   | exact ⟨b.1, RoundIn.mono b.2 (fun e w'' he => by
     cases e with
     | returned v => exact he
     | panicked c => obtain ⟨s', _, he, _⟩ := he; cases he
     | outgrown => exfalso; obtain ⟨_, _, s', _, he, _⟩ := he; cases he)⟩
 | halt x w' =>
  cases x <;> first
   | (exfalso; simp only [Oper.uponIn] at b; obtain ⟨s', _, he, _⟩ := b; cases he)
   | exact b
theorem mt (i : Nat) (B : List Nat) {o : Oper} (hi : ops[i]? = some o) (v : Value) (hS : S w) (hrun : RunOk P n o s S v) (h : Lm P n ops Q S m fuel (listed.setIfInBounds i true) (s.put o.dst v) w)
  (hs : Region.noSelect ops = true := by kernel_rfl) (hf : Region.free .any ops listed i = true := by kernel_rfl) (hr : (Region.ready .any ops listed).contains i = true := by kernel_rfl) (hc : noCall o.op = true := by kernel_rfl) (hw : wantB ops n s o.guard = true := by kernel_rfl) (hb : waitB ops i B = true := by kernel_rfl) (hB : freeB listed B = true := by kernel_rfl) (hm : B.contains m = true := by kernel_rfl) (hmi : Nat.beq m i = false := by kernel_rfl)
  (hq : NoPanic Q := by with_reducible first | exact zJ | exact yX | exact wD) : Lm P n ops Q S m (fuel + 1) listed s w :=
 M_take i B v hi hs hf hr hc hw hb hB hm hmi hq hS hrun h
theorem mp (i : Nat) {o : Oper} (hi : ops[i]? = some o) (v : Value) (hS : listed.getD m true = true ∨ S w) (hrun : RunOk P n o s (fun _ => True) v) (h : Lm P n ops Q S m fuel (listed.setIfInBounds i true) (s.put o.dst v) w)
  (hs : Region.noSelect ops = true := by kernel_rfl) (hf : Region.free .any ops listed i = true := by kernel_rfl) (hr : (Region.ready .any ops listed).contains i = true := by kernel_rfl) (hc : noCall o.op = true := by kernel_rfl) (hw : wantB ops n s o.guard = true := by kernel_rfl) (hmi : Nat.beq m i = false := by kernel_rfl)
  (hq : NoPanic Q := by with_reducible first | exact zJ | exact yX | exact wD) : Lm P n ops Q S m (fuel + 1) listed s w :=
 M_pure i v hi hs hf hr hc hw hmi hq hS hrun h
end
attribute [irreducible] Mop Lm
section
variable {α : Type} {f : α → Value}
variable {P : Program} {n : Nat} {s : Fm} {d : Option Tmp} {ty : TypeId} {pos : String} {af : Array Edge} {g : Option (Nat × Bool)} {S : World → Prop}
theorem R_glook {T kt et : TypeId} {X Y : Operand} {k : IntKind} {v : Value} (a0 : α) (x : Int) (l : List (Int × α)) (ht : P.underlying T = some (.map kt et)) (hk : P.underlying kt = some (.int k)) (hz : (P.info? et).map (·.zero) = some (some (f a0)))
  (hX : s.ev n X = v) (hY : s.ev n Y = .int k x) (hv : ∀ w, S w → GmAt k f w v l) : RunOk P n ⟨d, .lookup T X Y true, ty, pos, af, g⟩ s S (.tuple #[f ((gget l x).getD a0), .bool (gget l x).isSome]) := by
 intro w hw
 simp only [execOp, hX, hY, Sem.run_bind, run_lookG a0 x l true ht hk hz (hv w hw), Result.andThen_ok, Sem.run_pure]; rfl
theorem R_glook1 {T kt et : TypeId} {X Y : Operand} {k : IntKind} {v : Value} (a0 : α) (x : Int) (l : List (Int × α)) (ht : P.underlying T = some (.map kt et)) (hk : P.underlying kt = some (.int k)) (hz : (P.info? et).map (·.zero) = some (some (f a0)))
  (hX : s.ev n X = v) (hY : s.ev n Y = .int k x) (hv : ∀ w, S w → GmAt k f w v l) : RunOk P n ⟨d, .lookup T X Y false, ty, pos, af, g⟩ s S (f ((gget l x).getD a0)) := by
 intro w hw
 simp only [execOp, hX, hY, Sem.run_bind, run_lookG a0 x l false ht hk hz (hv w hw), Result.andThen_ok, Sem.run_pure]; rfl
end
section
variable {α : Type} {fm : α → Value}
variable {r : Option Nat} {P : Program} {n : Nat} {Q : Post} {s : Fm} {w : World} {ops : Array Oper} {rest : List Oper}
variable {d : Option Tmp} {ty : TypeId} {pos : String} {af : Array Edge}
theorem L_mclone {k : IntKind} {X : Operand} {ats : Array TypeId} {t f : Nat} {fn : Func} (hf : P.funcs[f]? = some fn) (hname : (fn.name == "runtime.NumGoroutine") = false) (hb : fn.body.isNone = true) (hn : Extern.findNext fn = none) (hfind : Extern.find fn = some Extern.MapsClone.clone)
  (b : Nat) (l : List (Int × α)) (hm : w.heap[b]? = some (gmObj k fm l)) (hX : s.ev n X = .iface t (.map (some b)))
  (h : ∀ nb w', New w w' nb (gmObj k fm l) → L r P n ops Q rest (s.put d (.iface t (.map (some nb)))) w') : L r P n ops Q (⟨d, .call ⟨.value (.func f), #[X], ats⟩, ty, pos, af, none⟩ :: rest) s w := by
 refine L_new (fun nb => .iface t (.map (some nb))) (gmObj k fm l) ?_ (by rfl) h
 have hrun := run_maps_clone_sl (P := P) w (r := b) (es := (gEnt k fm l 0).toArray) (clock := l.length) t hm
 have a : s.ev n (.func f) = .func (.func f) #[] #[] := rfl
 simp [execOp, resolve, invoke, a, hX, Deferred.ofValue, run_callFunc_extern hf hname hb hn hfind, hrun, Result.andThen]
 rfl
theorem L_unmap {X : Operand} {t xT kt et : TypeId} (v : Value) (ht : P.underlying t = some (.map kt et)) (hX : s.ev n X = .iface t v) (h : L r P n ops Q rest (s.put d v) w) : L r P n ops Q (⟨d, .typeAssert X xT t false, ty, pos, af, none⟩ :: rest) s w := by
 refine xI v w (by simp) ?_ h
 simp only [execOp, hX, Sem.run_bind, run_typeAssert_map_sl w t xT kt et v ht, Result.andThen_ok, Sem.run_pure]
end
section
variable {α : Type} {f : α → Value}
variable {P : Program} {n : Nat} {K : Fm → Prop} {s : Fm} {w : World} {ops : Array Oper} {rest : List Oper}
variable {d : Option Tmp} {ty : TypeId} {pos : String} {af : Array Edge}
theorem xR {T kt et : TypeId} {X Y : Operand} {k : IntKind} {v : Value} (a0 : α) (x : Int) (l : List (Int × α)) (ht : P.underlying T = some (.map kt et)) (hk : P.underlying kt = some (.int k)) (hz : (P.info? et).map (·.zero) = some (some (f a0)))
  (hv : GmAt k f w v l) (hX : s.ev n X = v) (hY : s.ev n Y = .int k x)
  (h : Lq P n ops w K rest (s.put d (.tuple #[f ((gget l x).getD a0), .bool (gget l x).isSome]))) : Lq P n ops w K (⟨d, .lookup T X Y true, ty, pos, af, none⟩ :: rest) s :=
 Lq_val _ (fun w' hw' => R_glook (S := fun w2 => Below w.heap.size w w2) a0 x l ht hk hz hX hY (fun w2 h2 => hv.below h2) w' hw') h
end
def PtAt (v : Value) (cs : List Value) (A : World) : Prop := ∃ g off, v = .pointer (some ⟨g, off, none⟩) ∧ ∀ j u, cs[j]? = some u → A.cell? ⟨g, off + j, none⟩ = some u
theorem PtAt.below {v : Value} {cs : List Value} {A B : World} (h : PtAt v cs A) (hb : Below A.heap.size A B) : PtAt v cs B := by
 obtain ⟨g, off, b, a⟩ := h
 exact ⟨g, off, b, fun j u hj => (hb.cell (p := ⟨g, off + j, none⟩) (World.block_lt_of_cell? A _ (a j u hj))).trans (a j u hj)⟩
end Go.FK
end

/- === FKai === -/
section
/- FKai: a call walked in place; an iterator that hands its yield on to another one. My own text. -/
namespace Go.FK
open Go Go.RowKit
section
variable {r : Option Nat} {P : Program} {n : Nat} {Q : Post} {s : Fm} {w : World} {ops : Array Oper} {rest : List Oper}
variable {d : Option Tmp} {ty : TypeId} {pos : String} {af : Array Edge}
theorem L_inline {op : Op} (f : FuncId) (args : List Value) (hrun : (execOp (s.ev n) ⟨d, op, ty, pos, af, none⟩).run P w = .ok (.enter f args.toArray) w) (hd : notDefer op = true)
  (hc : Calls P f args.toArray w (Ret fun v w' => L r P n ops Q rest (s.put d v) w')) : L r P n ops Q (⟨d, op, ty, pos, af, none⟩ :: rest) s w :=
 L_call f args hrun hd hc (fun _ _ h => h)
end
def encVal (v : Value) : List Value := [v]
end Go.FK
end

/- === Wcb1 === -/
section
/- Walks, written by my program walk.py out of the specification cb1.py: each theorem says what one function returns and that it leaves memory as it was. -/
namespace Go.Proofs.YtddnhlobnembaaaGreatDoor
open Go Go.RowKit Go.FK _root_.Go.Proofs.Tryz
set_option maxHeartbeats 4000000
set_option maxRecDepth 100000
theorem el22 : Elem Tryz.prog 22 26 3 12 := ⟨underlying22, zk, rfl⟩
theorem c_point (r : Int) (w : World) :
  Calls Tryz.prog 95 #[(I3 r)] w (Ret fun v w' => v = (.bool (ptB r)) ∧ Below w.heap.size w w') := by
 refine wG 9 func95 rfl ?_
 have a := Below.refl w.heap.size w
 refine wR (zH (nR (zG (zGe .i32 r 0 ?_ ?_))))
 ·intro e
  refine zG (zw (zG (zw (zLe .i32 r 1114111 ?_ ?_))))
  ·intro b
   exact xE (zH (nQ (zS (yC [(.bool true)] ⟨eb (by exact (ptB_y zo zo).symm), a⟩))))
  intro c
  exact xE (zH (nQ (zS (yC [(.bool false)] ⟨eb (by exact (ptB_n zo).symm), a⟩))))
 intro d
 exact zG (zs (zs (xC (zH (nQ (zS (yC [(.bool false)] ⟨eb (by exact (ptB_n zo).symm), a⟩)))))))
theorem c_may (xa : Int) (xo : Int) (xs : Int) (w : World) :
  Calls Tryz.prog 61 #[(Value.agg #[(I3 xa), (I3 xo), (U8 xs)])] w (Ret fun v w' => v = (I6 (mayE (xa, xo, xs))) ∧ Below w.heap.size w w') := by
 refine wG 30 func61 rfl ?_
 have b := Below.refl w.heap.size w
 refine wR (zN [(I3 xa), (I3 xo), (U8 xs)] 26 ?_)
 intro f r c
 have g := c.ge b.size
 have a := c.here
 refine zH (nW (wR (zFO 0 a rfl (zc (c_point xa _ ) ?_))))
 rintro _ t ⟨rfl, d⟩
 refine zX (ptB xa) ?_ ?_
 ·intro q
  have a := zA a d
  refine wX true (zG (zw (zr (pt f 1) (zw (zO 1 a rfl (zw (zc (c_point xo _ ) ?_)))))))
  rintro _ s ⟨rfl, e⟩
  refine zX (ptB xo) ?_ ?_
  ·intro p
   have a := zA a e
   refine zw (wX true (xC (zG (zw (zr (pt f 0) (zw (zO 0 a rfl (zw (zr (pt f 1) (zw (zO 1 a rfl (zw (wC .i32 xa xo ?_ ?_)))))))))))))
   ·intro k
    have b := ((b.tr c.below).tr d).tr e
    exact xC (zG (zs (zs (zs (zs (zs (zs (zs (zs (xE (nQ (zT (wR (zH (nQ (zS (zE (yC [(I6 80)] ⟨e6 (by exact (mayE_n (may_3 za)).symm), b⟩))))))))))))))))))
   intro n
   refine xC (zG (zw (zr (pt f 2) (zw (zO 2 a rfl (zw (zNe .u8 xs 1 ?_ ?_)))))))
   ·intro o
    refine zw (zG (zw (zr (pt f 2) (zw (zO 2 a rfl (zw (zNe .u8 xs 2 ?_ ?_)))))))
    ·intro h
     have b := ((b.tr c.below).tr d).tr e
     exact zw (xE (xC (nQ (zT (wR (zH (nQ (zS (zE (yC [(I6 80)] ⟨e6 (by exact (mayE_n (may_4 za za)).symm), b⟩))))))))))
    intro m
    have b := ((b.tr c.below).tr d).tr e
    exact zw (xE (xC (nQ (zF (zQ (zB (wR (zH (nQ (zS (yC [(I6 0)] ⟨e6 (by exact (mayE_y (may_y za za za (by first | exact .inl za | exact .inr za))).symm), b⟩)))))))))))
   intro l
   have b := ((b.tr c.below).tr d).tr e
   exact zw (zG (zs (zs (zs (zw (xC (xC (nQ (zF (zQ (zB (wR (zH (nQ (zS (yC [(I6 0)] ⟨e6 (by exact (mayE_y (may_y za za za (by first | exact .inl za | exact .inr za))).symm), b⟩))))))))))))))))
  intro j
  have b := ((b.tr c.below).tr d).tr e
  exact zw (wX false (xC (zG (zs (zs (zs (zs (zs (xE (zG (zs (zs (zs (zs (zs (zs (zs (zs (xE (nQ (zT (wR (zH (nQ (zS (zE (yC [(I6 80)] ⟨e6 (by exact (mayE_n (may_2 za)).symm), b⟩)))))))))))))))))))))))))))
 intro i
 have b := (b.tr c.below).tr d
 exact wX false (zG (zs (zs (zs (zs (xE (zG (zs (zs (zs (zs (zs (xE (zG (zs (zs (zs (zs (zs (zs (zs (zs (xE (nQ (zT (wR (zH (nQ (zS (zE (yC [(I6 80)] ⟨e6 (by exact (mayE_n (may_1 za)).symm), b⟩)))))))))))))))))))))))))))))))
theorem c_asked (r : Int) (w : World) :
  Calls Tryz.prog 57 #[(I3 r)] w (Ret fun v w' => v = (I3 (askB r)) ∧ Below w.heap.size w w') := by
 refine wG 7 func57 rfl ?_
 have a := Below.refl w.heap.size w
 refine wR (zH (nW (wR (zG (zc (c_point r _ ) ?_)))))
 rintro _ d ⟨rfl, b⟩
 refine zX (ptB r) ?_ ?_
 ·intro e
  have a := a.tr b
  exact wX true (nQ (zF (zQ (zB (wR (zG (zH (nQ (zS (yC [(I3 r)] ⟨e3 (by exact (ask_y za).symm), a⟩))))))))))
 intro c
 have a := a.tr b
 exact wX false (nQ (zT (wR (zH (nQ (zS (zE (yC [(I3 65533)] ⟨e3 (by exact (ask_n za).symm), a⟩))))))))
theorem c_there_nil (w : World) :
  Calls Tryz.prog 51 #[(.pointer none)] w (Ret fun v w' => v = (.bool false) ∧ Below w.heap.size w w') := by
 refine wG 12 func51 rfl ?_
 have a := Below.refl w.heap.size w
 exact wR (zH (nR (zG (zr (.bool false) (zG (zs (zs (zs (zs (zs (xC (zH (nQ (zS (yC [(.bool false)] ⟨rfl, a⟩)))))))))))))))
theorem c_there (a : Nat) (m_rs : Nat) (rs : List (Int × (Int × Int × Int))) (b : Value) (ts : List (Int × Int)) (w : World) (c : w.heap[a]? = some (.cells [(.map (some m_rs)), b].toArray 69 (0, 0))) (d : GmAt .i32 vBrk w (.map (some m_rs)) rs) (e : GmAt .i32 vI32 w b ts) :
  Calls Tryz.prog 51 #[(pt a 0)] w (Ret fun v w' => v = (.bool true) ∧ Below w.heap.size w w') := by
 refine wG 12 func51 rfl ?_
 have f := Below.refl w.heap.size w
 exact wR (zH (nR (zG (zr (.bool true) (zG (zw (zG (zw (zr (pt a 0) (zw (zr (pt a 0) (zw (zO 0 c rfl (zw (zr (.bool true) (xE (zH (nQ (zS (yC [(.bool true)] ⟨rfl, f⟩))))))))))))))))))))
theorem c_lone (q : Nat) (m_rs : Nat) (rs : List (Int × (Int × Int × Int))) (s : Value) (ts : List (Int × Int)) (xa : Int) (xo : Int) (xs : Int) (w : World) (d : w.heap[q]? = some (.cells [(.map (some m_rs)), s].toArray 69 (0, 0))) (b : GmAt .i32 vBrk w (.map (some m_rs)) rs) (ab : GmAt .i32 vI32 w s ts) :
  Calls Tryz.prog 30 #[(pt q 0), (Value.agg #[(I3 xa), (I3 xo), (U8 xs)])] w (Ret fun v w' => v = (.bool (loneM rs (xa, xo, xs))) ∧ Below w.heap.size w w') := by
 refine wG 33 func30 rfl ?_
 have e := Below.refl w.heap.size w
 refine wR (zN [(I3 xa), (I3 xo), (U8 xs)] 26 ?_)
 intro t w2 p
 have ac := p.ge e.size
 have a := p.here
 refine zH (nW (wF 11 13 zk zk zk ?_))
 intro w4 r
 refine ⟨fun w => (w.heap[q]? = some (.cells [(.map (some m_rs)), s].toArray 69 (0, 0))) ∧ (w.heap[t]? = some (.cells [(I3 xa), (I3 xo), (U8 xs)].toArray 26 (0, 0))) ∧ (GmAt .i32 vBrk w (.map (some m_rs)) rs), ?_⟩
 have d := zA (zA d p.below) r
 have a := zA a r
 have b := (b.below p.below).below r
 refine mp 0 rfl (pt q 0) (.inr ⟨d, a, b⟩) zg (hq := (zC zJ)) (mp 1 rfl (pt q 0) (.inr ⟨d, a, b⟩) zg (hq := (zC zJ)) (mp 2 rfl (pt q 0) (.inr ⟨d, a, b⟩) zg (hq := (zC zJ)) (mt 3 [3, 6, 7, 8, 9, 11, 12] rfl (.map (some m_rs)) ⟨d, a, b⟩ (yY q 0 (.map (some m_rs)) zk zf (fun w2 h2 => zR h2.1 rfl)) (hq := (zC zJ)) (mp 4 rfl (pt t 1) (.inr ⟨d, a, b⟩) zg (hq := (zC zJ)) (mt 5 [5, 6, 7, 8, 9, 11, 12] rfl (I3 xo) ⟨d, a, b⟩ (yY t 1 (I3 xo) zk zf (fun w2 h2 => zR h2.2.1 rfl)) (hq := (zC zJ)) (mt 6 [6, 7, 8, 9, 11, 12] rfl (.tuple #[(Value.agg #[(I3 ((lookB rs xo).1)), (I3 ((lookB rs xo).2.1)), (U8 ((lookB rs xo).2.2))]), (.bool ((gget rs xo).isSome))]) ⟨d, a, b⟩ (R_glook (k := .i32) (f := vBrk) (0, 0, 0) xo rs underlying66 underlying21 zk zk zk (fun w2 h2 => h2.2.2)) (hq := (zC zJ)) (mp 7 rfl (.tuple #[(Value.agg #[(I3 ((lookB rs xo).1)), (I3 ((lookB rs xo).2.1)), (U8 ((lookB rs xo).2.2))]), (.bool ((gget rs xo).isSome))]) (.inr ⟨d, a, b⟩) zg (hq := (zC zJ)) (mp 8 rfl (Value.agg #[(I3 ((lookB rs xo).1)), (I3 ((lookB rs xo).2.1)), (U8 ((lookB rs xo).2.2))]) (.inr ⟨d, a, b⟩) zg (hq := (zC zJ)) ?_))))))))
 refine M_all2 9 10 zk ?_ ?_
 ·skip
  refine yZ 9 rfl ?_ rfl
  refine zr (.bool ((gget rs xo).isSome)) (zX ((gget rs xo).isSome) ?_ ?_)
  ·intro h6
   refine zU ?_
   refine ⟨rfl, .inr ⟨d, a, b⟩, yP 10 zk (yZ 10 rfl ?_ rfl)⟩
   refine zN [(I3 0), (I3 0), (U8 0)] 26 ?_
   intro b7 w8 m
   have i := yE (zV a) m
   have e := (e.tr p.below).tr r
   have h := m.ge e.size
   have c := m.here
   refine zU ?_
   have d := zA d m.below
   have a := zA a m.below
   have b := b.below m.below
   refine ⟨rfl, .inr ⟨d, a, b⟩, yP 11 zk (yZ 11 rfl ?_ rfl)⟩
   refine wN [(I3 ((lookB rs xo).1)), (I3 ((lookB rs xo).2.1)), (U8 ((lookB rs xo).2.2))] c ?_
   intro ao o
   have c := o.here
   refine zU ?_
   refine ⟨rfl, .inl zk, ?_⟩
   have a := zD a o i
   refine mp 12 rfl (.bool true) (.inl zk) zg (hq := (zC zJ)) (yU zk (zB (wR (zG (wX true (zG (zw (zr (pt b7 1) (zw (zO 1 c rfl (zw (zr (pt t 0) (zw (zO 0 a rfl (zw (zNe .i32 ((lookB rs xo).2.1) xa ?_ ?_))))))))))))))))
   ·intro au
    have e := (e.tr m.below).trans (o.below h)
    exact xC (zG (zs (zs (zs (zs (zs (xE (zH (nQ (zS (yC [(.bool true)] ⟨eb (by exact (lone_2 za).symm), e⟩)))))))))))
   intro ay
   refine xC (zG (zw (zr (pt b7 2) (zw (zO 2 c rfl (zw (zr (pt t 2) (zw (zO 2 a rfl (zw (wC .u8 ((lookB rs xo).2.2) xs ?_ ?_)))))))))))
   ·intro a4
    have e := (e.tr m.below).trans (o.below h)
    exact xC (zH (nQ (zS (yC [(.bool true)] ⟨eb (by exact (lone_3 za).symm), e⟩))))
   intro af
   have e := (e.tr m.below).trans (o.below h)
   exact xC (zH (nQ (zS (yC [(.bool false)] ⟨eb (by exact (lone_n za za za).symm), e⟩))))
  intro ax
  refine zU ?_
  refine ⟨rfl, .inr ⟨d, a, b⟩, yP 10 zk (yZ 10 rfl ?_ rfl)⟩
  refine zN [(I3 0), (I3 0), (U8 0)] 26 ?_
  intro aw al j
  have e := (e.tr p.below).tr r
  have h := j.ge e.size
  have c := j.here
  refine zU ?_
  have d := zA d j.below
  have a := zA a j.below
  have b := b.below j.below
  refine ⟨rfl, .inr ⟨d, a, b⟩, yP 11 zk (yZ 11 rfl ?_ rfl)⟩
  refine wN [(I3 ((lookB rs xo).1)), (I3 ((lookB rs xo).2.1)), (U8 ((lookB rs xo).2.2))] c ?_
  intro am y
  refine zU ?_
  refine ⟨rfl, .inl zk, ?_⟩
  have e := (e.tr j.below).trans (y.below h)
  exact mp 12 rfl (.bool false) (.inl zk) zg (hq := (zC zJ)) (yU zk (zB (wR (zG (wX false (zG (zs (zs (zs (zs (zs (xE (zG (zs (zs (zs (zs (zs (xE (zH (nQ (zS (yC [(.bool true)] ⟨eb (by exact (lone_1 za).symm), e⟩)))))))))))))))))))))))
 skip
 refine yZ 10 rfl ?_ rfl
 refine zN [(I3 0), (I3 0), (U8 0)] 26 ?_
 intro u aq g
 have i := yE (zV a) g
 have e := (e.tr p.below).tr r
 have h := g.ge e.size
 have c := g.here
 refine zU ?_
 have d := zA d g.below
 have a := zA a g.below
 have b := b.below g.below
 refine ⟨rfl, .inr ⟨d, a, b⟩, M_all2 9 11 zk ?_ ?_⟩
 ·skip
  refine yZ 9 rfl ?_ rfl
  refine zr (.bool ((gget rs xo).isSome)) (zX ((gget rs xo).isSome) ?_ ?_)
  ·intro a1
   refine zU ?_
   refine ⟨rfl, .inr ⟨d, a, b⟩, yP 11 zk (yZ 11 rfl ?_ rfl)⟩
   refine wN [(I3 ((lookB rs xo).1)), (I3 ((lookB rs xo).2.1)), (U8 ((lookB rs xo).2.2))] c ?_
   intro ag n
   have c := n.here
   refine zU ?_
   refine ⟨rfl, .inl zk, ?_⟩
   have a := zD a n i
   refine mp 12 rfl (.bool true) (.inl zk) zg (hq := (zC zJ)) (yU zk (zB (wR (zG (wX true (zG (zw (zr (pt u 1) (zw (zO 1 c rfl (zw (zr (pt t 0) (zw (zO 0 a rfl (zw (zNe .i32 ((lookB rs xo).2.1) xa ?_ ?_))))))))))))))))
   ·intro ah
    have e := (e.tr g.below).trans (n.below h)
    exact xC (zG (zs (zs (zs (zs (zs (xE (zH (nQ (zS (yC [(.bool true)] ⟨eb (by exact (lone_2 za).symm), e⟩)))))))))))
   intro ar
   refine xC (zG (zw (zr (pt u 2) (zw (zO 2 c rfl (zw (zr (pt t 2) (zw (zO 2 a rfl (zw (wC .u8 ((lookB rs xo).2.2) xs ?_ ?_)))))))))))
   ·intro ak
    have e := (e.tr g.below).trans (n.below h)
    exact xC (zH (nQ (zS (yC [(.bool true)] ⟨eb (by exact (lone_3 za).symm), e⟩))))
   intro ai
   have e := (e.tr g.below).trans (n.below h)
   exact xC (zH (nQ (zS (yC [(.bool false)] ⟨eb (by exact (lone_n za za za).symm), e⟩))))
  intro ap
  refine zU ?_
  refine ⟨rfl, .inr ⟨d, a, b⟩, yP 11 zk (yZ 11 rfl ?_ rfl)⟩
  refine wN [(I3 ((lookB rs xo).1)), (I3 ((lookB rs xo).2.1)), (U8 ((lookB rs xo).2.2))] c ?_
  intro an z
  refine zU ?_
  refine ⟨rfl, .inl zk, ?_⟩
  have e := (e.tr g.below).trans (z.below h)
  exact mp 12 rfl (.bool false) (.inl zk) zg (hq := (zC zJ)) (yU zk (zB (wR (zG (wX false (zG (zs (zs (zs (zs (zs (xE (zG (zs (zs (zs (zs (zs (xE (zH (nQ (zS (yC [(.bool true)] ⟨eb (by exact (lone_1 za).symm), e⟩)))))))))))))))))))))))
 skip
 refine yZ 11 rfl ?_ rfl
 refine wN [(I3 ((lookB rs xo).1)), (I3 ((lookB rs xo).2.1)), (U8 ((lookB rs xo).2.2))] c ?_
 intro a2 l
 have c := l.here
 refine zU ?_
 refine ⟨rfl, .inl zk, yP 9 zk (yZ 9 rfl ?_ rfl)⟩
 refine zr (.bool ((gget rs xo).isSome)) (zX ((gget rs xo).isSome) ?_ ?_)
 ·intro a3
  refine zU ?_
  refine ⟨rfl, .inl zk, ?_⟩
  have a := zD a l i
  refine mp 12 rfl (.bool true) (.inl zk) zg (hq := (zC zJ)) (yU zk (zB (wR (zG (wX true (zG (zw (zr (pt u 1) (zw (zO 1 c rfl (zw (zr (pt t 0) (zw (zO 0 a rfl (zw (zNe .i32 ((lookB rs xo).2.1) xa ?_ ?_))))))))))))))))
  ·intro ae
   have e := (e.tr g.below).trans (l.below h)
   exact xC (zG (zs (zs (zs (zs (zs (xE (zH (nQ (zS (yC [(.bool true)] ⟨eb (by exact (lone_2 za).symm), e⟩)))))))))))
  intro az
  refine xC (zG (zw (zr (pt u 2) (zw (zO 2 c rfl (zw (zr (pt t 2) (zw (zO 2 a rfl (zw (wC .u8 ((lookB rs xo).2.2) xs ?_ ?_)))))))))))
  ·intro av
   have e := (e.tr g.below).trans (l.below h)
   exact xC (zH (nQ (zS (yC [(.bool true)] ⟨eb (by exact (lone_3 za).symm), e⟩))))
  intro a0
  have e := (e.tr g.below).trans (l.below h)
  exact xC (zH (nQ (zS (yC [(.bool false)] ⟨eb (by exact (lone_n za za za).symm), e⟩))))
 intro aj
 refine zU ?_
 refine ⟨rfl, .inl zk, ?_⟩
 have e := (e.tr g.below).trans (l.below h)
 exact mp 12 rfl (.bool false) (.inl zk) zg (hq := (zC zJ)) (yU zk (zB (wR (zG (wX false (zG (zs (zs (zs (zs (zs (xE (zG (zs (zs (zs (zs (zs (xE (zH (nQ (zS (yC [(.bool true)] ⟨eb (by exact (lone_1 za).symm), e⟩)))))))))))))))))))))))
theorem c_Bracket_nil (r : Int) (w : World) :
  Calls Tryz.prog 23 #[(.pointer none), (I3 r)] w (Ret fun v w' => v = (.tuple #[(I3 0), (U8 0)]) ∧ Below w.heap.size w w') := by
 refine wG 27 func23 rfl ?_
 have a := Below.refl w.heap.size w
 refine wR (zH (zH (nW (wR (zG (zc (c_there_nil  _ ) ?_))))))
 rintro _ c ⟨rfl, b⟩
 have a := a.tr b
 exact wX false (nQ (zT (wR (zH (zH (nQ (zS (zE (yC [(I3 0), (U8 0)] ⟨rfl, a⟩)))))))))
theorem xF (m : Nat) (m_rs : Nat) (rs : List (Int × (Int × Int × Int))) (p : Value) (ts : List (Int × Int)) (r : Int) (w : World) (c : w.heap[m]? = some (.cells [(.map (some m_rs)), p].toArray 69 (0, 0))) (a : GmAt .i32 vBrk w (.map (some m_rs)) rs) (ag : GmAt .i32 vI32 w p ts) :
  Calls Tryz.prog 23 #[(pt m 0), (I3 r)] w (Ret fun v w' => v = (.tuple #[(I3 ((brkF rs r).1)), (U8 ((brkF rs r).2))]) ∧ Below w.heap.size w w') := by
 refine wG 27 func23 rfl ?_
 have d := Below.refl w.heap.size w
 refine wR (zH (zH (nW (wR (zG (zc (c_there m m_rs rs p ts _ c a ag) ?_))))))
 rintro _ w1 ⟨rfl, q⟩
 refine wX true (nQ (zF (zQ (zB (yF (wF 11 13 zk zk zk ?_))))))
 intro w4 s
 refine ⟨fun w => (w.heap[m]? = some (.cells [(.map (some m_rs)), p].toArray 69 (0, 0))) ∧ (GmAt .i32 vBrk w (.map (some m_rs)) rs), ?_⟩
 have c := zA (zA c q) s
 have a := (a.below q).below s
 refine mp 0 rfl (pt m 0) (.inr ⟨c, a⟩) zg (hq := (zC zJ)) (mp 1 rfl (pt m 0) (.inr ⟨c, a⟩) zg (hq := (zC zJ)) (mp 2 rfl (pt m 0) (.inr ⟨c, a⟩) zg (hq := (zC zJ)) (mt 3 [3, 6, 7, 8, 9, 11, 12] rfl (.map (some m_rs)) ⟨c, a⟩ (yY m 0 (.map (some m_rs)) zk zf (fun w2 h2 => zR h2.1 rfl)) (hq := (zC zJ)) (mp 4 rfl (I3 r) (.inr ⟨c, a⟩) zg (hq := (zC zJ)) ?_))))
 refine M_all2 5 10 zk ?_ ?_
 ·skip
  refine yZ 5 rfl ?_ rfl
  refine zc (c_asked r _ ) ?_
  rintro _ w6 ⟨rfl, t⟩
  refine zU ?_
  have c := zA c t
  have a := a.below t
  refine ⟨rfl, .inr ⟨c, a⟩, mt 6 [6, 7, 8, 9, 11, 12] rfl (.tuple #[(Value.agg #[(I3 ((lookB rs (askB r)).1)), (I3 ((lookB rs (askB r)).2.1)), (U8 ((lookB rs (askB r)).2.2))]), (.bool ((gget rs (askB r)).isSome))]) ⟨c, a⟩ (R_glook (k := .i32) (f := vBrk) (0, 0, 0) (askB r) rs underlying66 underlying21 zk zk zk (fun w2 h2 => h2.2)) (hq := (zC zJ)) (mp 7 rfl (.tuple #[(Value.agg #[(I3 ((lookB rs (askB r)).1)), (I3 ((lookB rs (askB r)).2.1)), (U8 ((lookB rs (askB r)).2.2))]), (.bool ((gget rs (askB r)).isSome))]) (.inr ⟨c, a⟩) zg (hq := (zC zJ)) (mp 8 rfl (Value.agg #[(I3 ((lookB rs (askB r)).1)), (I3 ((lookB rs (askB r)).2.1)), (U8 ((lookB rs (askB r)).2.2))]) (.inr ⟨c, a⟩) zg (hq := (zC zJ)) ?_))⟩
  refine M_all2 9 10 zk ?_ ?_
  ·skip
   refine yZ 9 rfl ?_ rfl
   refine zr (.bool ((gget rs (askB r)).isSome)) (zX ((gget rs (askB r)).isSome) ?_ ?_)
   ·intro h9
    refine zU ?_
    refine ⟨rfl, .inr ⟨c, a⟩, yP 10 zk (yZ 10 rfl ?_ rfl)⟩
    refine zN [(I3 0), (I3 0), (U8 0)] 26 ?_
    intro z a2 n
    have d := ((d.tr q).tr s).tr t
    have e := n.ge d.size
    have b := n.here
    refine zU ?_
    have c := zA c n.below
    have a := a.below n.below
    refine ⟨rfl, .inr ⟨c, a⟩, yP 11 zk (yZ 11 rfl ?_ rfl)⟩
    refine wN [(I3 ((lookB rs (askB r)).1)), (I3 ((lookB rs (askB r)).2.1)), (U8 ((lookB rs (askB r)).2.2))] b ?_
    intro az aa
    have b := aa.here
    refine zU ?_
    refine ⟨rfl, .inl zk, mp 12 rfl (.bool true) (.inl zk) zg (hq := (zC zJ)) (yU zk (zB (yF (wR (zG (wX true (nQ (zF (zQ (zB (yF (yN zk zk (zZ (pt z 1) zf (yB z 1 (I3 ((lookB rs (askB r)).2.1)) zk zf (zR b rfl) (zZ (pt z 2) zf (yB z 2 (U8 ((lookB rs (askB r)).2.2)) zk zf (zR b rfl) (yR (yR (yJ ?_)))))))))))))))))))⟩
    intro ba af
    have d := ((d.tr n.below).trans (aa.below e)).tr af
    exact zB (zS (yC [(I3 ((lookB rs (askB r)).2.1)), (U8 ((lookB rs (askB r)).2.2))] ⟨xM (e3 (by (rw [brk_y za]; done))) (eu (by (rw [brk_y za]; done))), d⟩))
   intro a8
   refine zU ?_
   refine ⟨rfl, .inr ⟨c, a⟩, yP 10 zk (yZ 10 rfl ?_ rfl)⟩
   refine zN [(I3 0), (I3 0), (U8 0)] 26 ?_
   intro a4 a6 j
   have d := ((d.tr q).tr s).tr t
   have e := j.ge d.size
   have b := j.here
   refine zU ?_
   have c := zA c j.below
   have a := a.below j.below
   refine ⟨rfl, .inr ⟨c, a⟩, yP 11 zk (yZ 11 rfl ?_ rfl)⟩
   refine wN [(I3 ((lookB rs (askB r)).1)), (I3 ((lookB rs (askB r)).2.1)), (U8 ((lookB rs (askB r)).2.2))] b ?_
   intro a7 al
   refine zU ?_
   refine ⟨rfl, .inl zk, ?_⟩
   have d := (d.tr j.below).trans (al.below e)
   exact mp 12 rfl (.bool false) (.inl zk) zg (hq := (zC zJ)) (yU zk (zB (yF (wR (zG (wX false (nQ (zT (wR (zH (zH (nQ (zS (zE (yC [(I3 0), (U8 0)] ⟨xM (e3 (by (rw [brk_n za]; done))) (eu (by (rw [brk_n za]; done))), d⟩)))))))))))))))
  skip
  refine yZ 10 rfl ?_ rfl
  refine zN [(I3 0), (I3 0), (U8 0)] 26 ?_
  intro l ar i
  have d := ((d.tr q).tr s).tr t
  have e := i.ge d.size
  have b := i.here
  refine zU ?_
  have c := zA c i.below
  have a := a.below i.below
  refine ⟨rfl, .inr ⟨c, a⟩, M_all2 9 11 zk ?_ ?_⟩
  ·skip
   refine yZ 9 rfl ?_ rfl
   refine zr (.bool ((gget rs (askB r)).isSome)) (zX ((gget rs (askB r)).isSome) ?_ ?_)
   ·intro av
    refine zU ?_
    refine ⟨rfl, .inr ⟨c, a⟩, yP 11 zk (yZ 11 rfl ?_ rfl)⟩
    refine wN [(I3 ((lookB rs (askB r)).1)), (I3 ((lookB rs (askB r)).2.1)), (U8 ((lookB rs (askB r)).2.2))] b ?_
    intro ay ab
    have b := ab.here
    refine zU ?_
    refine ⟨rfl, .inl zk, mp 12 rfl (.bool true) (.inl zk) zg (hq := (zC zJ)) (yU zk (zB (yF (wR (zG (wX true (nQ (zF (zQ (zB (yF (yN zk zk (zZ (pt l 1) zf (yB l 1 (I3 ((lookB rs (askB r)).2.1)) zk zf (zR b rfl) (zZ (pt l 2) zf (yB l 2 (U8 ((lookB rs (askB r)).2.2)) zk zf (zR b rfl) (yR (yR (yJ ?_)))))))))))))))))))⟩
    intro ap ae
    have d := ((d.tr i.below).trans (ab.below e)).tr ae
    exact zB (zS (yC [(I3 ((lookB rs (askB r)).2.1)), (U8 ((lookB rs (askB r)).2.2))] ⟨xM (e3 (by (rw [brk_y za]; done))) (eu (by (rw [brk_y za]; done))), d⟩))
   intro an
   refine zU ?_
   refine ⟨rfl, .inr ⟨c, a⟩, yP 11 zk (yZ 11 rfl ?_ rfl)⟩
   refine wN [(I3 ((lookB rs (askB r)).1)), (I3 ((lookB rs (askB r)).2.1)), (U8 ((lookB rs (askB r)).2.2))] b ?_
   intro am ai
   refine zU ?_
   refine ⟨rfl, .inl zk, ?_⟩
   have d := (d.tr i.below).trans (ai.below e)
   exact mp 12 rfl (.bool false) (.inl zk) zg (hq := (zC zJ)) (yU zk (zB (yF (wR (zG (wX false (nQ (zT (wR (zH (zH (nQ (zS (zE (yC [(I3 0), (U8 0)] ⟨xM (e3 (by (rw [brk_n za]; done))) (eu (by (rw [brk_n za]; done))), d⟩)))))))))))))))
  skip
  refine yZ 11 rfl ?_ rfl
  refine wN [(I3 ((lookB rs (askB r)).1)), (I3 ((lookB rs (askB r)).2.1)), (U8 ((lookB rs (askB r)).2.2))] b ?_
  intro ao y
  have b := y.here
  refine zU ?_
  refine ⟨rfl, .inl zk, yP 9 zk (yZ 9 rfl ?_ rfl)⟩
  refine zr (.bool ((gget rs (askB r)).isSome)) (zX ((gget rs (askB r)).isSome) ?_ ?_)
  ·intro au
   refine zU ?_
   refine ⟨rfl, .inl zk, mp 12 rfl (.bool true) (.inl zk) zg (hq := (zC zJ)) (yU zk (zB (yF (wR (zG (wX true (nQ (zF (zQ (zB (yF (yN zk zk (zZ (pt l 1) zf (yB l 1 (I3 ((lookB rs (askB r)).2.1)) zk zf (zR b rfl) (zZ (pt l 2) zf (yB l 2 (U8 ((lookB rs (askB r)).2.2)) zk zf (zR b rfl) (yR (yR (yJ ?_)))))))))))))))))))⟩
   intro a1 ah
   have d := ((d.tr i.below).trans (y.below e)).tr ah
   exact zB (zS (yC [(I3 ((lookB rs (askB r)).2.1)), (U8 ((lookB rs (askB r)).2.2))] ⟨xM (e3 (by (rw [brk_y za]; done))) (eu (by (rw [brk_y za]; done))), d⟩))
  intro bf
  refine zU ?_
  refine ⟨rfl, .inl zk, ?_⟩
  have d := (d.tr i.below).trans (y.below e)
  exact mp 12 rfl (.bool false) (.inl zk) zg (hq := (zC zJ)) (yU zk (zB (yF (wR (zG (wX false (nQ (zT (wR (zH (zH (nQ (zS (zE (yC [(I3 0), (U8 0)] ⟨xM (e3 (by (rw [brk_n za]; done))) (eu (by (rw [brk_n za]; done))), d⟩)))))))))))))))
 skip
 refine yZ 10 rfl ?_ rfl
 refine zN [(I3 0), (I3 0), (U8 0)] 26 ?_
 intro o be h
 have d := (d.tr q).tr s
 have e := h.ge d.size
 have b := h.here
 refine zU ?_
 have c := zA c h.below
 have a := a.below h.below
 refine ⟨rfl, .inr ⟨c, a⟩, yP 5 zk (yZ 5 rfl ?_ rfl)⟩
 refine zc (c_asked r _ ) ?_
 rintro _ a3 ⟨rfl, g⟩
 refine zU ?_
 have c := zA c g
 have a := a.below g
 refine ⟨rfl, .inr ⟨c, a⟩, mt 6 [6, 7, 8, 9, 11, 12] rfl (.tuple #[(Value.agg #[(I3 ((lookB rs (askB r)).1)), (I3 ((lookB rs (askB r)).2.1)), (U8 ((lookB rs (askB r)).2.2))]), (.bool ((gget rs (askB r)).isSome))]) ⟨c, a⟩ (R_glook (k := .i32) (f := vBrk) (0, 0, 0) (askB r) rs underlying66 underlying21 zk zk zk (fun w2 h2 => h2.2)) (hq := (zC zJ)) (mp 7 rfl (.tuple #[(Value.agg #[(I3 ((lookB rs (askB r)).1)), (I3 ((lookB rs (askB r)).2.1)), (U8 ((lookB rs (askB r)).2.2))]), (.bool ((gget rs (askB r)).isSome))]) (.inr ⟨c, a⟩) zg (hq := (zC zJ)) (mp 8 rfl (Value.agg #[(I3 ((lookB rs (askB r)).1)), (I3 ((lookB rs (askB r)).2.1)), (U8 ((lookB rs (askB r)).2.2))]) (.inr ⟨c, a⟩) zg (hq := (zC zJ)) ?_))⟩
 refine M_all2 9 11 zk ?_ ?_
 ·skip
  refine yZ 9 rfl ?_ rfl
  refine zr (.bool ((gget rs (askB r)).isSome)) (zX ((gget rs (askB r)).isSome) ?_ ?_)
  ·intro aw
   refine zU ?_
   refine ⟨rfl, .inr ⟨c, a⟩, yP 11 zk (yZ 11 rfl ?_ rfl)⟩
   have b := zA b g
   refine wN [(I3 ((lookB rs (askB r)).1)), (I3 ((lookB rs (askB r)).2.1)), (U8 ((lookB rs (askB r)).2.2))] b ?_
   intro bb ac
   have b := ac.here
   refine zU ?_
   refine ⟨rfl, .inl zk, mp 12 rfl (.bool true) (.inl zk) zg (hq := (zC zJ)) (yU zk (zB (yF (wR (zG (wX true (nQ (zF (zQ (zB (yF (yN zk zk (zZ (pt o 1) zf (yB o 1 (I3 ((lookB rs (askB r)).2.1)) zk zf (zR b rfl) (zZ (pt o 2) zf (yB o 2 (U8 ((lookB rs (askB r)).2.2)) zk zf (zR b rfl) (yR (yR (yJ ?_)))))))))))))))))))⟩
   intro a0 ad
   have d := (((d.tr h.below).tr g).trans (ac.below e)).tr ad
   exact zB (zS (yC [(I3 ((lookB rs (askB r)).2.1)), (U8 ((lookB rs (askB r)).2.2))] ⟨xM (e3 (by (rw [brk_y za]; done))) (eu (by (rw [brk_y za]; done))), d⟩))
  intro aq
  refine zU ?_
  refine ⟨rfl, .inr ⟨c, a⟩, yP 11 zk (yZ 11 rfl ?_ rfl)⟩
  have b := zA b g
  refine wN [(I3 ((lookB rs (askB r)).1)), (I3 ((lookB rs (askB r)).2.1)), (U8 ((lookB rs (askB r)).2.2))] b ?_
  intro bc aj
  refine zU ?_
  refine ⟨rfl, .inl zk, ?_⟩
  have d := ((d.tr h.below).tr g).trans (aj.below e)
  exact mp 12 rfl (.bool false) (.inl zk) zg (hq := (zC zJ)) (yU zk (zB (yF (wR (zG (wX false (nQ (zT (wR (zH (zH (nQ (zS (zE (yC [(I3 0), (U8 0)] ⟨xM (e3 (by (rw [brk_n za]; done))) (eu (by (rw [brk_n za]; done))), d⟩)))))))))))))))
 skip
 refine yZ 11 rfl ?_ rfl
 have b := zA b g
 refine wN [(I3 ((lookB rs (askB r)).1)), (I3 ((lookB rs (askB r)).2.1)), (U8 ((lookB rs (askB r)).2.2))] b ?_
 intro bd u
 have b := u.here
 refine zU ?_
 refine ⟨rfl, .inl zk, yP 9 zk (yZ 9 rfl ?_ rfl)⟩
 refine zr (.bool ((gget rs (askB r)).isSome)) (zX ((gget rs (askB r)).isSome) ?_ ?_)
 ·intro a5
  refine zU ?_
  refine ⟨rfl, .inl zk, mp 12 rfl (.bool true) (.inl zk) zg (hq := (zC zJ)) (yU zk (zB (yF (wR (zG (wX true (nQ (zF (zQ (zB (yF (yN zk zk (zZ (pt o 1) zf (yB o 1 (I3 ((lookB rs (askB r)).2.1)) zk zf (zR b rfl) (zZ (pt o 2) zf (yB o 2 (U8 ((lookB rs (askB r)).2.2)) zk zf (zR b rfl) (yR (yR (yJ ?_)))))))))))))))))))⟩
  intro a9 ak
  have d := (((d.tr h.below).tr g).trans (u.below e)).tr ak
  exact zB (zS (yC [(I3 ((lookB rs (askB r)).2.1)), (U8 ((lookB rs (askB r)).2.2))] ⟨xM (e3 (by (rw [brk_y za]; done))) (eu (by (rw [brk_y za]; done))), d⟩))
 intro ax
 refine zU ?_
 refine ⟨rfl, .inl zk, ?_⟩
 have d := ((d.tr h.below).tr g).trans (u.below e)
 exact mp 12 rfl (.bool false) (.inl zk) zg (hq := (zC zJ)) (yU zk (zB (yF (wR (zG (wX false (nQ (zT (wR (zH (zH (nQ (zS (zE (yC [(I3 0), (U8 0)] ⟨xM (e3 (by (rw [brk_n za]; done))) (eu (by (rw [brk_n za]; done))), d⟩)))))))))))))))
theorem c_Twin_nil (r : Int) (w : World) :
  Calls Tryz.prog 25 #[(.pointer none), (I3 r)] w (Ret fun v w' => v = (I3 r) ∧ Below w.heap.size w w') := by
 refine wG 25 func25 rfl ?_
 have a := Below.refl w.heap.size w
 refine wR (zH (nW (wR (zG (zc (c_there_nil  _ ) ?_)))))
 rintro _ c ⟨rfl, b⟩
 have a := a.tr b
 exact wX false (nQ (zT (wR (zG (zH (nQ (zS (zE (yC [(I3 r)] ⟨rfl, a⟩)))))))))
theorem c_Twin (d : Nat) (m_rs : Nat) (rs : List (Int × (Int × Int × Int))) (b : Value) (ts : List (Int × Int)) (r : Int) (w : World) (e : w.heap[d]? = some (.cells [(.map (some m_rs)), b].toArray 69 (0, 0))) (i : GmAt .i32 vBrk w (.map (some m_rs)) rs) (a : GmAt .i32 vI32 w b ts) :
  Calls Tryz.prog 25 #[(pt d 0), (I3 r)] w (Ret fun v w' => v = (I3 (twnF ts r)) ∧ Below w.heap.size w w') := by
 refine wG 25 func25 rfl ?_
 have h := Below.refl w.heap.size w
 refine wR (zH (nW (wR (zG (zc (c_there d m_rs rs b ts _ e i a) ?_)))))
 rintro _ j ⟨rfl, c⟩
 refine wX true (nQ (zF (zQ (zB (wR (zG (zc (c_asked r _ ) ?_)))))))
 rintro _ n ⟨rfl, g⟩
 have e := zA (zA e c) g
 have a := (a.below c).below g
 refine zH (nW (wR (zG (zr (pt d 0) (zFO 1 e rfl (zG (L_glook (k := .i32) (f := vI32) 0 (askB r) ts underlying67 underlying21 zk a zk zk (zG (zr (I3 ((gget ts (askB r)).getD 0)) (zr (.bool ((gget ts (askB r)).isSome)) (zX ((gget ts (askB r)).isSome) ?_ ?_)))))))))))
 ·intro l
  have h := (h.tr c).tr g
  exact zH (zH (nR (zG (nQ (zT (wR (zG (zH (nQ (zS (zE (yC [(I3 ((gget ts (askB r)).getD 0))] ⟨e3 (by (rw [twn_y za]; done)), h⟩))))))))))))
 intro m
 have h := (h.tr c).tr g
 exact zH (zH (nR (zG (nQ (zF (zQ (zB (wR (zG (zH (nQ (zS (yC [(I3 (askB r))] ⟨e3 (by (rw [twn_n za]; done)), h⟩)))))))))))))
theorem c_Matches_nil (o : Int) (c : Int) (w : World) :
  Calls Tryz.prog 26 #[(.pointer none), (I3 o), (I3 c)] w (Ret fun v w' => v = (.bool false) ∧ Below w.heap.size w w') := by
 refine wG 41 func26 rfl ?_
 have b := Below.refl w.heap.size w
 refine wR (zH (nR (zG (zr (.func (.func 23) #[(.pointer none)] #[]) (zH (nR (zG (zG (zc (c_Bracket_nil o _ ) ?_)))))))))
 rintro _ e ⟨rfl, a⟩
 refine zG (zr (I3 0) (zr (U8 0) (zH (zH (nR (zG (zG (zc (c_Bracket_nil c _ ) ?_))))))))
 rintro _ f ⟨rfl, d⟩
 have b := (b.tr a).tr d
 exact zG (zr (I3 0) (zr (U8 0) (zH (zH (nR (zG (zr (.bool false) (zG (zs (zs (xC (zG (zs (zs (zs (zs (zs (zs (zs (xC (zH (nQ (zS (yC [(.bool false)] ⟨rfl, b⟩))))))))))))))))))))))))
theorem yT (h : Nat) (m_rs : Nat) (rs : List (Int × (Int × Int × Int))) (e : Value) (ts : List (Int × Int)) (o : Int) (c : Int) (w : World) (d : w.heap[h]? = some (.cells [(.map (some m_rs)), e].toArray 69 (0, 0))) (b : GmAt .i32 vBrk w (.map (some m_rs)) rs) (a : GmAt .i32 vI32 w e ts) :
  Calls Tryz.prog 26 #[(pt h 0), (I3 o), (I3 c)] w (Ret fun v w' => v = (.bool (mtcF rs ts o c)) ∧ Below w.heap.size w w') := by
 refine wG 41 func26 rfl ?_
 have j := Below.refl w.heap.size w
 refine wR (zH (nR (zG (zr (.func (.func 23) #[(pt h 0)] #[]) (zH (nR (zG (zG (zc (xF h m_rs rs e ts o _ d b a) ?_)))))))))
 rintro _ r ⟨rfl, g⟩
 have d := zA d g
 have b := b.below g
 have a := a.below g
 refine zG (zr (I3 ((brkF rs o).1)) (zr (U8 ((brkF rs o).2)) (zH (zH (nR (zG (zG (zc (xF h m_rs rs e ts c _ d b a) ?_))))))))
 rintro _ y ⟨rfl, i⟩
 refine zG (zr (I3 ((brkF rs c).1)) (zr (U8 ((brkF rs c).2)) (zH (zH (nR (zG (wC .u8 ((brkF rs o).2) 1 ?_ ?_)))))))
 ·intro s
  refine zG (zw (zG (zw (wC .u8 ((brkF rs c).2) 2 ?_ ?_))))
  ·intro u
   have d := zA d i
   have b := b.below i
   have a := a.below i
   refine xE (zG (zw (zG (zw (zG (zw (zc (c_Twin h m_rs rs e ts ((brkF rs o).1) _ d b a) ?_)))))))
   rintro _ t ⟨rfl, f⟩
   have d := zA d f
   have b := b.below f
   have a := a.below f
   refine zw (zG (zw (zG (zw (zc (c_Twin h m_rs rs e ts c _ d b a) ?_)))))
   rintro _ m ⟨rfl, k⟩
   refine zw (wC .i32 (twnF ts ((brkF rs o).1)) (twnF ts c) ?_ ?_)
   ·intro l
    have j := (((j.tr g).tr i).tr f).tr k
    exact xE (zH (nQ (zS (yC [(.bool true)] ⟨eb (by (rw [mtc_3 za za]; first | exact (decide_eq_true za).symm | exact (decide_eq_false za).symm)), j⟩))))
   intro q
   have j := (((j.tr g).tr i).tr f).tr k
   exact xE (zH (nQ (zS (yC [(.bool false)] ⟨eb (by (rw [mtc_3 za za]; first | exact (decide_eq_true za).symm | exact (decide_eq_false za).symm)), j⟩))))
  intro p
  have j := (j.tr g).tr i
  exact xE (zG (zs (zs (zs (zs (zs (zs (zs (xC (zH (nQ (zS (yC [(.bool false)] ⟨eb (by exact (mtc_2 za).symm), j⟩)))))))))))))
 intro n
 have j := (j.tr g).tr i
 exact zG (zs (zs (xC (zG (zs (zs (zs (zs (zs (zs (zs (xC (zH (nQ (zS (yC [(.bool false)] ⟨eb (by exact (mtc_1 za).symm), j⟩))))))))))))))))
end Go.Proofs.YtddnhlobnembaaaGreatDoor
end
