/- PWords: the plain functions of chapter 05 (words): no program in sight. -/
import Derived.Test.YtjdcmeoiommglaaDoorPHexM
namespace Go.FK
open Go

/-! ### 5.1 -/
def blankB (r : Int) : Bool := r == 9 || r == 11 || r == 12 || r == 32 || r == 133 || r == 160 || r == 5760 || r == 8232 || r == 8233 || r == 8239 || r == 8287 || r == 12288 || (decide (8192 ≤ r) && decide (r ≤ 8202))
/-- A text's characters from a byte on; so many at most. -/
def runesN (s : List UInt8) : Nat → Nat → List Int
  | 0, _ => []
  | n + 1, pos => if pos < s.length then ((dec s pos).1 : Int) :: runesN s n (pos + (dec s pos).2) else []
theorem runesN_end {s : List UInt8} : ∀ {n pos : Nat}, s.length ≤ pos → runesN s n pos = []
  | 0, _, _ => rfl
  | n + 1, pos, h => by rw [runesN, if_neg (by omega)]
theorem runesN_fuel {s : List UInt8} : ∀ (n m pos : Nat), s.length - pos ≤ n → s.length - pos ≤ m → runesN s n pos = runesN s m pos := by
  intro n
  induction n with
  | zero => intro m pos h _; rw [runesN_end (by omega), runesN_end (by omega)]
  | succ n ih =>
    intro m pos hn hm
    by_cases h : pos < s.length
    · cases m with
      | zero => omega
      | succ m =>
        have := dec_pos s pos
        rw [runesN, runesN, if_pos h, if_pos h, ih m _ (by omega) (by omega)]
    · rw [runesN_end (by omega), runesN_end (by omega)]
/-- A text's characters from a byte on. -/
def runesFrom (s : List UInt8) (pos : Nat) : List Int := runesN s (s.length - pos) pos
theorem runesFrom_step {s : List UInt8} {pos : Nat} (h : pos < s.length) : runesFrom s pos = ((dec s pos).1 : Int) :: runesFrom s (pos + (dec s pos).2) := by
  have := dec_pos s pos
  unfold runesFrom
  rw [runesN_fuel (s.length - pos) (s.length - pos + 1) pos (by omega) (by omega), runesN, if_pos h]
  rw [runesN_fuel (s.length - pos) (s.length - (pos + (dec s pos).2)) _ (by omega) (by omega)]
theorem runesFrom_end {s : List UInt8} {pos : Nat} (h : s.length ≤ pos) : runesFrom s pos = [] := runesN_end h
/-- The words of a text, from a character on; 'fr': where the word that is open began, or -1. -/
def wordsN (s : List UInt8) : Nat → Nat → Int → List (Int × List UInt8)
  | 0, _, fr => if 0 ≤ fr then [(fr, s.drop fr.toNat)] else []
  | n + 1, pos, fr =>
    if pos < s.length then
      if blankB (dec s pos).1 = true then
        if 0 ≤ fr then (fr, (s.take pos).drop fr.toNat) :: wordsN s n (pos + (dec s pos).2) (-1) else wordsN s n (pos + (dec s pos).2) fr
      else if fr < 0 then wordsN s n (pos + (dec s pos).2) pos else wordsN s n (pos + (dec s pos).2) fr
    else if 0 ≤ fr then [(fr, s.drop fr.toNat)] else []
theorem wordsN_end {s : List UInt8} : ∀ {n pos : Nat} {fr : Int}, s.length ≤ pos → wordsN s n pos fr = if 0 ≤ fr then [(fr, s.drop fr.toNat)] else []
  | 0, _, _, _ => rfl
  | n + 1, pos, fr, h => by rw [wordsN, if_neg (by omega)]
theorem wordsN_fuel {s : List UInt8} : ∀ (n m pos : Nat) (fr : Int), s.length - pos ≤ n → s.length - pos ≤ m → wordsN s n pos fr = wordsN s m pos fr := by
  intro n
  induction n with
  | zero => intro m pos fr h _; rw [wordsN_end (by omega), wordsN_end (by omega)]
  | succ n ih =>
    intro m pos fr hn hm
    by_cases h : pos < s.length
    · cases m with
      | zero => omega
      | succ m =>
        have := dec_pos s pos
        rw [wordsN, wordsN, if_pos h, if_pos h, ih m _ (-1) (by omega) (by omega), ih m _ fr (by omega) (by omega), ih m _ pos (by omega) (by omega)]
    · rw [wordsN_end (by omega), wordsN_end (by omega)]
def wordsFrom (s : List UInt8) (pos : Nat) (fr : Int) : List (Int × List UInt8) := wordsN s (s.length - pos) pos fr
theorem wordsFrom_step {s : List UInt8} {pos : Nat} {fr c : Int} (h : pos < s.length) (hc : c = ((dec s pos).1 : Int)) : wordsFrom s pos fr =
      if blankB c = true then
        if 0 ≤ fr then (fr, (s.take pos).drop fr.toNat) :: wordsFrom s (pos + (dec s pos).2) (-1) else wordsFrom s (pos + (dec s pos).2) fr
      else if fr < 0 then wordsFrom s (pos + (dec s pos).2) pos else wordsFrom s (pos + (dec s pos).2) fr := by
  have := dec_pos s pos
  subst hc
  unfold wordsFrom
  have e : ∀ fr, wordsN s (s.length - pos) (pos + (dec s pos).2) fr = wordsN s (s.length - (pos + (dec s pos).2)) (pos + (dec s pos).2) fr := fun fr => wordsN_fuel _ _ _ _ (by omega) (by omega)
  rw [wordsN_fuel (s.length - pos) (s.length - pos + 1) pos fr (by omega) (by omega), wordsN, if_pos h, e, e, e]
theorem wordsFrom_end {s : List UInt8} {pos : Nat} {fr : Int} (h : s.length ≤ pos) : wordsFrom s pos fr = if 0 ≤ fr then [(fr, s.drop fr.toNat)] else [] := wordsN_end h
def wordsOf (s : List UInt8) : List (Int × List UInt8) := wordsFrom s 0 (-1)
theorem wordsN_length (s : List UInt8) : ∀ (n pos : Nat) (fr : Int), (wordsN s n pos fr).length ≤ n + 1 := by
  intro n
  induction n with
  | zero => intro pos fr; unfold wordsN; split <;> simp
  | succ n ih =>
    intro pos fr
    unfold wordsN
    have := ih (pos + (dec s pos).2)
    split
    · split
      · split
        · have := this (-1); simp only [List.length_cons]; omega
        · have := this fr; omega
      · split
        · have := this pos; omega
        · have := this fr; omega
    · split <;> simp
theorem wordsN_mem (s : List UInt8) : ∀ (n pos : Nat) (fr : Int), ∀ x ∈ wordsN s n pos fr, x.2.length ≤ s.length := by
  intro n
  induction n with
  | zero => intro pos fr x hx; unfold wordsN at hx; split at hx <;> simp at hx; subst hx; simp
  | succ n ih =>
    intro pos fr x hx
    unfold wordsN at hx
    split at hx
    · split at hx
      · split at hx
        · rcases List.mem_cons.1 hx with rfl | hx
          · simp; omega
          · exact ih _ _ x hx
        · exact ih _ _ x hx
      · split at hx
        · exact ih _ _ x hx
        · exact ih _ _ x hx
    · split at hx <;> simp at hx; subst hx; simp
theorem words_len {s : List UInt8} {pre : List (Int × List UInt8)} {x : Int × List UInt8} (h : pre ++ [x] <+: wordsOf s) : x.2.length ≤ s.length ∧ pre.length ≤ s.length := by
  refine ⟨wordsN_mem s _ _ _ x (h.subset (by simp)), ?_⟩
  have h1 := h.length_le
  have h2 : (wordsOf s).length ≤ s.length - 0 + 1 := wordsN_length s _ _ _
  simp at h1
  omega
theorem pre_of {α : Type} {pre rest els : List α} {x : α} (h : pre ++ x :: rest = els) : pre ++ [x] <+: els := ⟨rest, by simp [← h]⟩
/-! ### layer 1's reference -/
def longN (b : Int) : Nat := if b < 128 then 1 else if b < 192 ∨ 247 < b then 0 else if b < 224 then 2 else if b < 240 then 3 else 4
def scalarB (r : Int) : Bool := decide (0 ≤ r) && decide (r ≤ 1114111) && (decide (r < 55296) || decide (57343 < r))
def widthN (r : Int) : Nat := if scalarB r = true then if r < 128 then 1 else if r < 2048 then 2 else if r < 65536 then 3 else 4 else 0
theorem widthN_cases (r : Int) : widthN r = 0 ∧ scalarB r = false ∨ widthN r = 1 ∧ scalarB r = true ∧ 0 ≤ r ∧ r < 128 ∨ widthN r = 2 ∧ scalarB r = true ∧ 128 ≤ r ∧ r < 2048 ∨ widthN r = 3 ∧ scalarB r = true ∧ 2048 ≤ r ∧ r < 65536 ∨ widthN r = 4 ∧ scalarB r = true ∧ 65536 ≤ r ∧ r ≤ 1114111 := by
  unfold widthN
  cases h : scalarB r with
  | false => simp
  | true =>
    have h2 : 0 ≤ r ∧ r ≤ 1114111 := by simp [scalarB] at h; omega
    simp only [if_true]
    split
    · simp; omega
    · split
      · simp; omega
      · split
        · simp; omega
        · simp; omega
theorem valid_scalar (r : Int) : Utf8.valid r = scalarB r := by
  rw [Bool.eq_iff_iff]; simp [Utf8.valid, scalarB]; omega
theorem enc_ok {r : Int} {n : Nat} (h : scalarB r = true) (hn : r = (n : Int)) : encL [r] = if n < 128 then [UInt8.ofNat n] else if n < 2048 then [UInt8.ofNat (192 + n / 64), UInt8.ofNat (128 + n % 64)] else if n < 65536 then [UInt8.ofNat (224 + n / 4096), UInt8.ofNat (128 + n / 64 % 64), UInt8.ofNat (128 + n % 64)] else [UInt8.ofNat (240 + n / 262144), UInt8.ofNat (128 + n / 4096 % 64), UInt8.ofNat (128 + n / 64 % 64), UInt8.ofNat (128 + n % 64)] := by
  subst hn
  simp only [encL, List.flatMap_cons, List.flatMap_nil, List.append_nil, Utf8.encode, valid_scalar, h, if_true, Int.toNat_natCast]
  repeat' split
  all_goals rfl
theorem bytesI_nat (n : Nat) : bytesI [(n : Int)] = [UInt8.ofNat n] := by simp [bytesI]
theorem seq0 {r : Int} (h : widthN r = 0) : [239, 191, 189] = encL [r] := by
  have hs : scalarB r = false := by have := widthN_cases r; grind
  simp only [encL, List.flatMap_cons, List.flatMap_nil, List.append_nil, Utf8.encode, valid_scalar, hs, Bool.false_eq_true, if_false, Utf8.runeError]
  decide
theorem seq1 {r : Int} (h : widthN r = 1) : bytesI [r] = encL [r] := by
  have hs : scalarB r = true ∧ 0 ≤ r ∧ r < 128 := by have := widthN_cases r; grind
  obtain ⟨n, rfl⟩ : ∃ n : Nat, r = (n : Int) := ⟨r.toNat, by omega⟩
  rw [enc_ok hs.1 rfl, if_pos (by omega), bytesI_nat]
theorem seq2 {r : Int} (h : widthN r = 2) : bytesI [192 + r / 64] ++ bytesI [128 + r % 64] = encL [r] := by
  have hs : scalarB r = true ∧ 128 ≤ r ∧ r < 2048 := by have := widthN_cases r; grind
  obtain ⟨n, rfl⟩ : ∃ n : Nat, r = (n : Int) := ⟨r.toNat, by omega⟩
  rw [enc_ok hs.1 rfl, if_neg (by omega), if_pos (by omega)]
  rw [show (192 + (n : Int) / 64) = ((192 + n / 64 : Nat) : Int) by omega, show (128 + (n : Int) % 64) = ((128 + n % 64 : Nat) : Int) by omega, bytesI_nat, bytesI_nat]; rfl
theorem seq3 {r : Int} (h : widthN r = 3) : bytesI [224 + r / 4096] ++ bytesI [128 + r / 64 % 64] ++ bytesI [128 + r % 64] = encL [r] := by
  have hs : scalarB r = true ∧ 2048 ≤ r ∧ r < 65536 := by have := widthN_cases r; grind
  obtain ⟨n, rfl⟩ : ∃ n : Nat, r = (n : Int) := ⟨r.toNat, by omega⟩
  rw [enc_ok hs.1 rfl, if_neg (by omega), if_neg (by omega), if_pos (by omega)]
  rw [show (224 + (n : Int) / 4096) = ((224 + n / 4096 : Nat) : Int) by omega, show (128 + (n : Int) / 64 % 64) = ((128 + n / 64 % 64 : Nat) : Int) by omega, show (128 + (n : Int) % 64) = ((128 + n % 64 : Nat) : Int) by omega, bytesI_nat, bytesI_nat, bytesI_nat]; rfl
theorem seq4 {r : Int} (h : widthN r = 4) : bytesI [240 + r / 262144] ++ bytesI [128 + r / 4096 % 64] ++ bytesI [128 + r / 64 % 64] ++ bytesI [128 + r % 64] = encL [r] := by
  have hs : scalarB r = true ∧ 65536 ≤ r ∧ r ≤ 1114111 := by have := widthN_cases r; grind
  obtain ⟨n, rfl⟩ : ∃ n : Nat, r = (n : Int) := ⟨r.toNat, by omega⟩
  rw [enc_ok hs.1 rfl, if_neg (by omega), if_neg (by omega), if_neg (by omega)]
  rw [show (240 + (n : Int) / 262144) = ((240 + n / 262144 : Nat) : Int) by omega, show (128 + (n : Int) / 4096 % 64) = ((128 + n / 4096 % 64 : Nat) : Int) by omega, show (128 + (n : Int) / 64 % 64) = ((128 + n / 64 % 64 : Nat) : Int) by omega, show (128 + (n : Int) % 64) = ((128 + n % 64 : Nat) : Int) by omega, bytesI_nat, bytesI_nat, bytesI_nat, bytesI_nat]; rfl
theorem bytesI1_len (b : Int) : (bytesI [b]).length = 1 := rfl
theorem bytesI_len (l : List Int) : (bytesI l).length = l.length := by simp [bytesI]
theorem enc_len (x : Int) : (Utf8.encode x).data.toList.length ≤ 4 := by
  unfold Utf8.encode; simp only
  repeat' split
  all_goals simp
theorem encL_len (l : List Int) : (encL l).length ≤ 4 * l.length := by
  induction l with
  | nil => simp [encL]
  | cons x l ih =>
    have := enc_len x
    simp only [encL, List.flatMap_cons, List.length_append, List.length_cons] at ih ⊢
    omega
theorem encTake_len (l : List Int) (i : Nat) : (encL (l.take i)).length ≤ 4 * l.length := by
  have := encL_len (l.take i)
  have h := List.length_take_le i l
  have h2 : (l.take i).length ≤ l.length := by rw [List.length_take]; omega
  omega
theorem encL1_len (r : Int) : (encL [r]).length ≤ 4 := by simpa using encL_len [r]
theorem take_succ_some {α : Type} {l : List α} {i : Nat} {x : α} (h : l[i]? = some x) : l.take (i + 1) = l.take i ++ [x] := by
  rw [List.take_add_one, h]; rfl
theorem encL_take {l : List Int} {i : Nat} {x : Int} (h : l[i]? = some x) : encL (l.take i) ++ encL [x] = encL (l.take (i + 1)) := by
  rw [take_succ_some h]; simp [encL]
theorem longN_le (b : Int) : longN b ≤ 4 := by
  unfold longN
  repeat' split
  all_goals omega
def bitsT : List Nat := [0, 127, 31, 15, 7]
def leastT : List Nat := [0, 0, 128, 2048, 65536]
theorem bitsT_len : bitsT.length = 5 := rfl
theorem leastT_len : leastT.length = 5 := rfl
/-- The reference's reading of a sequence's tail: what is wrong (0: nothing), and the number. -/
def atN (s : List UInt8) (p : Nat) : Nat → Nat → Nat → Nat × Nat
  | 0, _, x => (0, x)
  | f + 1, i, x => match s[p + i]? with
    | none => (11, 0)
    | some b => if b.toNat < 128 ∨ 191 < b.toNat then (12, 0) else atN s p f (i + 1) (x * 64 + b.toNat - 128)
def finF (n : Nat) (r : Nat × Nat) : Nat × Int × Int :=
  if r.1 ≠ 0 then (1, 65533, r.1) else if r.2 < leastT.getD n 0 then (1, 65533, 13) else if 55296 ≤ r.2 ∧ r.2 ≤ 57343 then (1, 65533, 14) else if 1114111 < r.2 then (1, 65533, 15) else (n, r.2, 0)
def atG (s : List UInt8) (p n i x : Nat) : Nat × Int × Int := finF n (atN s p (n - i) i x)
/-- The reference's reading of the character at a byte: its width, its number, what is wrong. -/
def atF (s : List UInt8) (p : Nat) : Nat × Int × Int :=
  let c := (s.getD p 0).toNat
  if longN c = 0 then (1, 65533, 10) else atG s p (longN c) 1 (c &&& bitsT.getD (longN c) 0)
theorem at_lead {s : List UInt8} {p : Nat} {c : UInt8} (hc : s[p]? = some c) (h : longN ((c.toNat : Nat) : Int) = 0) : atF s p = (1, 65533, 10) := by
  unfold atF
  rw [List.getD_eq_getElem?_getD, hc]
  simp [h]
theorem at_start {s : List UInt8} {p m : Nat} {c c2 : UInt8} (hc : s[p]? = some c) (hc2 : s[p]? = some c2) (h : ¬ longN ((c.toNat : Nat) : Int) = 0) (hm : bitsT[longN ((c.toNat : Nat) : Int)]? = some m) : atG s p (longN ((c.toNat : Nat) : Int)) 1 (c2.toNat &&& m) = atF s p := by
  obtain rfl : c = c2 := by rw [hc] at hc2; exact Option.some.inj hc2
  unfold atF
  rw [List.getD_eq_getElem?_getD, hc]
  simp [h, hm, List.getD]
theorem at_cut {s : List UInt8} {p n i x : Nat} (hi : i < n) (h : s.length ≤ p + i) : atG s p n i x = (1, 65533, 11) := by
  unfold atG
  obtain ⟨f, hf⟩ : ∃ f, n - i = f + 1 := ⟨n - i - 1, by omega⟩
  rw [hf, atN, List.getElem?_eq_none (by omega)]
  rfl
theorem at_tail {s : List UInt8} {p n i x : Nat} {b : UInt8} (hi : i < n) (hb : s[p + i]? = some b) (h : b.toNat < 128 ∨ 191 < b.toNat) : atG s p n i x = (1, 65533, 12) := by
  unfold atG
  obtain ⟨f, hf⟩ : ∃ f, n - i = f + 1 := ⟨n - i - 1, by omega⟩
  rw [hf, atN, hb]
  simp only [h, if_true]
  rfl
theorem at_step {s : List UInt8} {p n i x : Nat} {b : UInt8} (hi : i < n) (hb : s[p + i]? = some b) (h1 : 128 ≤ b.toNat) (h2 : b.toNat ≤ 191) : atG s p n i x = atG s p n (i + 1) (x * 64 + b.toNat - 128) := by
  unfold atG
  obtain ⟨f, hf⟩ : ∃ f, n - i = f + 1 := ⟨n - i - 1, by omega⟩
  rw [hf, atN, hb]
  simp only [show ¬ (b.toNat < 128 ∨ 191 < b.toNat) by omega, if_false]
  rw [show n - (i + 1) = f by omega]
theorem at_fin {s : List UInt8} {p n i x m : Nat} (hi : n ≤ i) (hm : leastT[n]? = some m) : atG s p n i x = if x < m then (1, 65533, 13) else if 55296 ≤ x ∧ x ≤ 57343 then (1, 65533, 14) else if 1114111 < x then (1, 65533, 15) else (n, (x : Int), 0) := by
  unfold atG finF
  rw [show n - i = 0 by omega, atN, List.getD_eq_getElem?_getD, hm]
  rfl
def atH (s : List UInt8) (p i x : Nat) : Nat × Int × Int := atG s p (longN (((s.getD p 0).toNat : Nat) : Int)) i x
theorem atH_eq {s : List UInt8} {p i x : Nat} {c : UInt8} (hc : s[p]? = some c) : atH s p i x = atG s p (longN ((c.toNat : Nat) : Int)) i x := by
  unfold atH; rw [List.getD_eq_getElem?_getD, hc]; rfl
theorem at_over {s : List UInt8} {p n i x m : Nat} (hi : n ≤ i) (hm : leastT[n]? = some m) (h : x < m) : atG s p n i x = (1, 65533, 13) := by rw [at_fin hi hm, if_pos h]
theorem at_half {s : List UInt8} {p n i x m : Nat} (hi : n ≤ i) (hm : leastT[n]? = some m) (h : m ≤ x) (h1 : 55296 ≤ x) (h2 : x ≤ 57343) : atG s p n i x = (1, 65533, 14) := by rw [at_fin hi hm, if_neg (by omega), if_pos ⟨h1, h2⟩]
theorem at_past {s : List UInt8} {p n i x m : Nat} (hi : n ≤ i) (hm : leastT[n]? = some m) (h : m ≤ x) (h1 : 1114111 < x) : atG s p n i x = (1, 65533, 15) := by rw [at_fin hi hm, if_neg (by omega), if_neg (by omega), if_pos h1]
theorem at_good {s : List UInt8} {p n i x m : Nat} (hi : n ≤ i) (hm : leastT[n]? = some m) (h : m ≤ x) (h1 : x < 55296 ∨ 57343 < x) (h2 : x ≤ 1114111) : atG s p n i x = (n, (x : Int), 0) := by rw [at_fin hi hm, if_neg (by omega), if_neg (by omega), if_neg (by omega)]
theorem bitsT_le {n m : Nat} (hm : bitsT[n]? = some m) : m ≤ 127 := by
  have : ∀ y ∈ bitsT, y ≤ 127 := by decide
  exact this m (List.mem_of_getElem? hm)
theorem and_bits {n m x : Nat} (hm : bitsT[n]? = some m) : x &&& m ≤ 127 := by
  have : ∀ y ∈ bitsT, y ≤ 127 := by decide
  have h1 := this m (List.mem_of_getElem? hm)
  have := Nat.and_le_right (n := x) (m := m)
  omega
def encSpot (x : Nat × Nat × Int × Int) : List Value := [.int .i64 (x.1 : Int), .int .i64 (x.2.1 : Int), .int .i32 x.2.2.1, .int .i64 x.2.2.2]
theorem finF_w {n : Nat} {r : Nat × Nat} (h : 1 ≤ n) (h4 : n ≤ 4) : 1 ≤ (finF n r).1 ∧ (finF n r).1 ≤ 4 := by
  unfold finF
  repeat' split
  all_goals simp
  exact ⟨h, h4⟩
theorem atF_w (s : List UInt8) (p : Nat) : 1 ≤ (atF s p).1 ∧ (atF s p).1 ≤ 4 := by
  unfold atF
  simp only
  split
  · simp
  · rename_i h
    have := longN_le ((s.getD p 0).toNat : Nat)
    exact finF_w (by omega) this
def spotsN (s : List UInt8) : Nat → Nat → List (Nat × Nat × Int × Int)
  | 0, _ => []
  | f + 1, p => if p < s.length then (p, (atF s p).1, (atF s p).2.1, (atF s p).2.2) :: spotsN s f (p + (atF s p).1) else []
theorem spotsN_end {s : List UInt8} : ∀ {n p : Nat}, s.length ≤ p → spotsN s n p = []
  | 0, _, _ => rfl
  | n + 1, p, h => by rw [spotsN, if_neg (by omega)]
theorem spotsN_fuel {s : List UInt8} : ∀ (n m p : Nat), s.length - p ≤ n → s.length - p ≤ m → spotsN s n p = spotsN s m p := by
  intro n
  induction n with
  | zero => intro m p h _; rw [spotsN_end (by omega), spotsN_end (by omega)]
  | succ n ih =>
    intro m p hn hm
    by_cases h : p < s.length
    · cases m with
      | zero => omega
      | succ m =>
        have := atF_w s p
        rw [spotsN, spotsN, if_pos h, if_pos h, ih m _ (by omega) (by omega)]
    · rw [spotsN_end (by omega), spotsN_end (by omega)]
def spotsFrom (s : List UInt8) (p : Nat) : List (Nat × Nat × Int × Int) := spotsN s (s.length - p) p
theorem spotsFrom_end {s : List UInt8} {p : Nat} (h : s.length ≤ p) : spotsFrom s p = [] := spotsN_end h
theorem spotsFrom_step {s : List UInt8} {p : Nat} (h : p < s.length) : spotsFrom s p = (p, (atF s p).1, (atF s p).2.1, (atF s p).2.2) :: spotsFrom s (p + (atF s p).1) := by
  have := atF_w s p
  unfold spotsFrom
  rw [spotsN_fuel (s.length - p) (s.length - p + 1) p (by omega) (by omega), spotsN, if_pos h]
  rw [spotsN_fuel (s.length - p) (s.length - (p + (atF s p).1)) _ (by omega) (by omega)]
theorem spotsN_len (s : List UInt8) : ∀ (n p : Nat), (spotsN s n p).length ≤ n
  | 0, _ => by simp [spotsN]
  | n + 1, p => by
    unfold spotsN
    split
    · simp [spotsN_len s n]
    · simp
theorem spots_len (s : List UInt8) : (spotsFrom s 0).length ≤ s.length := spotsN_len s _ _
def rrunes (s : List UInt8) : List Int := (spotsFrom s 0).map fun x => x.2.2.1
theorem rrunes_len (s : List UInt8) : (rrunes s).length ≤ s.length := by
  have := spots_len s
  simpa [rrunes] using this
/-! ### 5.2 -/
def dropW (r : Int) : Bool := blankB r || r == 95 || r == 45
def lowerI (r : Int) : Int := if 65 ≤ r ∧ r ≤ 90 then r + 32 else r
def looseL (l : List Int) : List Int := (l.filter (fun r => !dropW r)).map lowerI
theorem looseL_nil : looseL [] = [] := rfl
theorem looseL_drop {r : Int} {l : List Int} (h : dropW r = true) : looseL (r :: l) = looseL l := by simp [looseL, h]
theorem looseL_keep {r : Int} {l : List Int} (h : dropW r = false) : looseL (r :: l) = lowerI r :: looseL l := by simp [looseL, h]
theorem looseL_cons (r : Int) (l : List Int) : looseL (r :: l) = if dropW r then looseL l else lowerI r :: looseL l := by
  cases h : dropW r <;> simp [looseL, h]
def looseS (s : List UInt8) : List UInt8 := encL (looseL (runesFrom s 0))
def alikeB (a b : List UInt8) : Bool := decide (looseS a = looseS b)
/-! ### 5.3 -/
def shortTab : List (List UInt8) := [[], [76], [82], [65, 76], [69, 78], [69, 83], [69, 84], [65, 78], [67, 83], [78, 83, 77], [66, 78], [66], [83], [87, 83], [79, 78], [76, 82, 69], [76, 82, 79], [82, 76, 69], [82, 76, 79], [80, 68, 70], [76, 82, 73], [82, 76, 73], [70, 83, 73], [80, 68, 73]]
def longTab : List (List UInt8) := [[], [76, 101, 102, 116, 95, 84, 111, 95, 82, 105, 103, 104, 116], [82, 105, 103, 104, 116, 95, 84, 111, 95, 76, 101, 102, 116], [65, 114, 97, 98, 105, 99, 95, 76, 101, 116, 116, 101, 114], [69, 117, 114, 111, 112, 101, 97, 110, 95, 78, 117, 109, 98, 101, 114], [69, 117, 114, 111, 112, 101, 97, 110, 95, 83, 101, 112, 97, 114, 97, 116, 111, 114], [69, 117, 114, 111, 112, 101, 97, 110, 95, 84, 101, 114, 109, 105, 110, 97, 116, 111, 114], [65, 114, 97, 98, 105, 99, 95, 78, 117, 109, 98, 101, 114], [67, 111, 109, 109, 111, 110, 95, 83, 101, 112, 97, 114, 97, 116, 111, 114], [78, 111, 110, 115, 112, 97, 99, 105, 110, 103, 95, 77, 97, 114, 107], [66, 111, 117, 110, 100, 97, 114, 121, 95, 78, 101, 117, 116, 114, 97, 108], [80, 97, 114, 97, 103, 114, 97, 112, 104, 95, 83, 101, 112, 97, 114, 97, 116, 111, 114], [83, 101, 103, 109, 101, 110, 116, 95, 83, 101, 112, 97, 114, 97, 116, 111, 114], [87, 104, 105, 116, 101, 95, 83, 112, 97, 99, 101], [79, 116, 104, 101, 114, 95, 78, 101, 117, 116, 114, 97, 108], [76, 101, 102, 116, 95, 84, 111, 95, 82, 105, 103, 104, 116, 95, 69, 109, 98, 101, 100, 100, 105, 110, 103], [76, 101, 102, 116, 95, 84, 111, 95, 82, 105, 103, 104, 116, 95, 79, 118, 101, 114, 114, 105, 100, 101], [82, 105, 103, 104, 116, 95, 84, 111, 95, 76, 101, 102, 116, 95, 69, 109, 98, 101, 100, 100, 105, 110, 103], [82, 105, 103, 104, 116, 95, 84, 111, 95, 76, 101, 102, 116, 95, 79, 118, 101, 114, 114, 105, 100, 101], [80, 111, 112, 95, 68, 105, 114, 101, 99, 116, 105, 111, 110, 97, 108, 95, 70, 111, 114, 109, 97, 116], [76, 101, 102, 116, 95, 84, 111, 95, 82, 105, 103, 104, 116, 95, 73, 115, 111, 108, 97, 116, 101], [82, 105, 103, 104, 116, 95, 84, 111, 95, 76, 101, 102, 116, 95, 73, 115, 111, 108, 97, 116, 101], [70, 105, 114, 115, 116, 95, 83, 116, 114, 111, 110, 103, 95, 73, 115, 111, 108, 97, 116, 101], [80, 111, 112, 95, 68, 105, 114, 101, 99, 116, 105, 111, 110, 97, 108, 95, 73, 115, 111, 108, 97, 116, 101]]
def shortS (c : Int) : List UInt8 := if 1 ≤ c ∧ c ≤ 23 then shortTab.getD c.toNat [] else []
def longS (c : Int) : List UInt8 := if 1 ≤ c ∧ c ≤ 23 then longTab.getD c.toNat [] else []
theorem shortTab_len : shortTab.length = 24 := rfl
theorem longTab_len : longTab.length = 24 := rfl
theorem shortS_none {c : Int} (h : c < 1 ∨ 23 < c) : shortS c = [] := by unfold shortS; rw [if_neg (by omega)]
theorem longS_none {c : Int} (h : c < 1 ∨ 23 < c) : longS c = [] := by unfold longS; rw [if_neg (by omega)]
theorem shortS_tab {c : Int} {x : List UInt8} (h : 0 ≤ c) (hx : shortTab[c.toNat]? = some x) : x = shortS c := by
  have e : shortTab.getD c.toNat [] = x := by rw [List.getD_eq_getElem?_getD, hx]; rfl
  by_cases h0 : c = 0
  · subst h0; rw [← e]; rfl
  · obtain ⟨hlt, _⟩ := List.getElem?_eq_some_iff.1 hx
    rw [shortTab_len] at hlt
    unfold shortS; rw [if_pos (by omega), e]
theorem longS_tab {c : Int} {x : List UInt8} (h : 0 ≤ c) (hx : longTab[c.toNat]? = some x) : x = longS c := by
  have e : longTab.getD c.toNat [] = x := by rw [List.getD_eq_getElem?_getD, hx]; rfl
  by_cases h0 : c = 0
  · subst h0; rw [← e]; rfl
  · obtain ⟨hlt, _⟩ := List.getElem?_eq_some_iff.1 hx
    rw [longTab_len] at hlt
    unfold longS; rw [if_pos (by omega), e]
def shortF (c : Int) : List UInt8 := if 15 ≤ c then shortS c else []
def longF (c : Int) : List UInt8 := if 15 ≤ c then longS c else []
theorem shortF_eq {c : Int} (h : c < 1 ∨ 15 ≤ c) : shortF c = shortS c := by
  unfold shortF
  split
  · rfl
  · unfold shortS; rw [if_neg (by omega)]
theorem longF_eq {c : Int} (h : c < 1 ∨ 15 ≤ c) : longF c = longS c := by
  unfold longF
  split
  · rfl
  · unfold longS; rw [if_neg (by omega)]
theorem shortF_none {c : Int} (h : c < 15 ∨ 23 < c) : shortF c = [] := by
  unfold shortF
  split
  · unfold shortS; rw [if_neg (by omega)]
  · rfl
theorem longF_none {c : Int} (h : c < 15 ∨ 23 < c) : longF c = [] := by
  unfold longF
  split
  · unfold longS; rw [if_neg (by omega)]
  · rfl
theorem tab_ne : ∀ c : Nat, c < 23 → shortTab.getD (c + 1) [] ≠ [] ∧ longTab.getD (c + 1) [] ≠ [] := by decide
theorem shortS_nil {c : Int} : shortS c = [] ↔ ¬ (1 ≤ c ∧ c ≤ 23) := by
  unfold shortS
  split
  · rename_i h
    have := (tab_ne (c.toNat - 1) (by omega)).1
    rw [show c.toNat - 1 + 1 = c.toNat by omega] at this
    exact ⟨fun e => absurd e this, fun e => absurd h e⟩
  · rename_i h; exact ⟨fun _ => h, fun _ => rfl⟩
theorem longS_nil {c : Int} : longS c = [] ↔ ¬ (1 ≤ c ∧ c ≤ 23) := by
  unfold longS
  split
  · rename_i h
    have := (tab_ne (c.toNat - 1) (by omega)).2
    rw [show c.toNat - 1 + 1 = c.toNat by omega] at this
    exact ⟨fun e => absurd e this, fun e => absurd h e⟩
  · rename_i h; exact ⟨fun _ => h, fun _ => rfl⟩
theorem tab_len : ∀ c : Nat, c < 23 → (shortTab.getD (c + 1) []).length ≤ 30 ∧ (longTab.getD (c + 1) []).length ≤ 30 := by decide
theorem shortS_len (c : Int) : (shortS c).length ≤ 30 := by
  unfold shortS
  split
  · have := (tab_len (c.toNat - 1) (by omega)).1
    rwa [show c.toNat - 1 + 1 = c.toNat by omega] at this
  · simp
theorem longS_len (c : Int) : (longS c).length ≤ 30 := by
  unfold longS
  split
  · have := (tab_len (c.toNat - 1) (by omega)).2
    rwa [show c.toNat - 1 + 1 = c.toNat by omega] at this
  · simp
def toldE (c : Int) : Int := if 1 ≤ c ∧ c ≤ 23 then 0 else 2
theorem toldE_nil {c : Int} (h : shortS c = []) : toldE c = 2 := by unfold toldE; rw [if_neg (shortS_nil.1 h)]
theorem toldE_ok {c : Int} (h : ¬ shortS c = []) : toldE c = 0 := by
  unfold toldE; rw [if_pos]; exact Decidable.byContradiction fun hx => h (shortS_nil.2 hx)
def classN (name : List UInt8) : Nat → Int → Int × Int
  | 0, _ => (0, 50)
  | n + 1, c => if c ≤ 23 then if alikeB name (shortS c) = true then (c, 0) else if alikeB name (longS c) = true then (c, 0) else classN name n (c + 1) else (0, 50)
def classFrom (name : List UInt8) (c : Int) : Int × Int := classN name (24 - c).toNat c
theorem classFrom_step {name : List UInt8} {c : Int} (h : c ≤ 23) : classFrom name c = if alikeB name (shortS c) = true then (c, 0) else if alikeB name (longS c) = true then (c, 0) else classFrom name (c + 1) := by
  unfold classFrom
  obtain ⟨n, hn⟩ : ∃ n, (24 - c).toNat = n + 1 := ⟨(24 - c).toNat - 1, by omega⟩
  rw [hn, classN, if_pos h, show (24 - (c + 1)).toNat = n by omega]
theorem classFrom_end {name : List UInt8} {c : Int} (h : 23 < c) : classFrom name c = (0, 50) := by
  unfold classFrom
  rw [show (24 - c).toNat = 0 by omega]; rfl
def classF (name : List UInt8) : Int × Int := classFrom name 1
/-! ### 5.4 -/
def cstep (st : List Int × Int × Int) (x : Int × List UInt8) : List Int × Int × Int :=
  if st.2.2 ≠ 0 then st else if (classF x.2).2 ≠ 0 then ([], x.1, (classF x.2).2) else (st.1 ++ [(classF x.2).1], 0, 0)
theorem cstep_err {st : List Int × Int × Int} (h : st.2.2 ≠ 0) : ∀ l : List (Int × List UInt8), l.foldl cstep st = st := by
  intro l
  induction l with
  | nil => rfl
  | cons x l ih => rw [List.foldl_cons, show cstep st x = st by unfold cstep; rw [if_pos h]]; exact ih
def classesF (s : List UInt8) : List Int × Int × Int := (wordsOf s).foldl cstep ([], 0, 0)
/-! ### 5.5 -/
def letterS (c : Int) : List UInt8 := if c = 0 then [110] else if c = 1 then [111] else if c = 2 then [99] else []
def letterE (c : Int) : Int := if c = 0 ∨ c = 1 ∨ c = 2 then 0 else 2
theorem letterS_none {c : Int} (h : 2 < c) : letterS c = [] := by unfold letterS; rw [if_neg (by omega), if_neg (by omega), if_neg (by omega)]
theorem letterS_tab {c : Int} {x : UInt8} (h : 0 ≤ c) (h2 : c ≤ 2) (hx : ([110, 111, 99] : List UInt8)[c.toNat]? = some x) : bytesI [((x.toNat : Nat) : Int)] = letterS c := by
  have e : c = 0 ∨ c = 1 ∨ c = 2 := by omega
  rcases e with rfl | rfl | rfl <;> (cases hx; rfl)
def sideTab : List (List UInt8) := [[78, 111, 110, 101], [79, 112, 101, 110], [67, 108, 111, 115, 101]]
def sideN (name : List UInt8) : List (List UInt8) → Int → Int × Int
  | [], _ => (0, 51)
  | x :: l, c => if alikeB name (letterS c) = true then (c, 0) else if alikeB name x = true then (c, 0) else sideN name l (c + 1)
def sideFrom (name : List UInt8) (k : Nat) : Int × Int := sideN name (sideTab.drop k) k
theorem sideFrom_step {name x : List UInt8} {k : Nat} (h : sideTab[k]? = some x) : sideFrom name k = if alikeB name (letterS k) = true then ((k : Int), 0) else if alikeB name x = true then ((k : Int), 0) else sideFrom name (k + 1) := by
  unfold sideFrom
  rw [drop_some h, sideN]; rfl
theorem sideFrom_end {name : List UInt8} {k : Nat} (h : 3 ≤ k) : sideFrom name k = (0, 51) := by
  unfold sideFrom
  rw [List.drop_eq_nil_of_le (by simpa [sideTab] using h)]; rfl
theorem sideTab_len {k : Nat} {x : List UInt8} (h : sideTab[k]? = some x) : x.length ≤ 30 := by
  have : ∀ y ∈ sideTab, y.length ≤ 30 := by decide
  exact this x (List.mem_of_getElem? h)
theorem letterS_len (c : Int) : (letterS c).length ≤ 30 := by
  unfold letterS; repeat' split
  all_goals simp
def sideF (name : List UInt8) : Int × Int := sideFrom name 0
end Go.FK
