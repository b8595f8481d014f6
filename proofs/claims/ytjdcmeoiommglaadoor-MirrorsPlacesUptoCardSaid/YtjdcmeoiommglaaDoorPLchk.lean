/- Plain functions of chapter 3: the characters of a line, and where it is wrong first. -/
import Derived.Test.YtjdcmeoiommglaaDoorFKw
import Derived.Lib.DecodeN
import Derived.Lib.SlTrimSet
set_option linter.unusedVariables false
namespace Go.FK
open Go Go.RowKit
/-- Characters: where, how wide, which. -/
def charsN (s : List UInt8) : Nat → Nat → List (Nat × Nat × Nat)
  | 0, _ => []
  | n + 1, p => if p < s.length then (p, (dec s p).2, (dec s p).1) :: charsN s n (p + (dec s p).2) else []
theorem charsN_end {s : List UInt8} : ∀ {n p : Nat}, s.length ≤ p → charsN s n p = []
  | 0, _, _ => rfl
  | n + 1, p, h => by rw [charsN, if_neg (by omega)]
theorem charsN_fuel {s : List UInt8} : ∀ (n m p : Nat), s.length - p ≤ n → s.length - p ≤ m → charsN s n p = charsN s m p := by
  intro n
  induction n with
  | zero => intro m p h _; rw [charsN_end (by omega), charsN_end (by omega)]
  | succ n ih =>
    intro m p hn hm
    by_cases h : p < s.length
    · cases m with
      | zero => omega
      | succ m =>
        have := dec_pos s p
        rw [charsN, charsN, if_pos h, if_pos h, ih m _ (by omega) (by omega)]
    · rw [charsN_end (by omega), charsN_end (by omega)]
def charsFrom (s : List UInt8) (p : Nat) : List (Nat × Nat × Nat) := charsN s (s.length - p) p
theorem charsFrom_step {s : List UInt8} {p : Nat} (h : p < s.length) : charsFrom s p = (p, (dec s p).2, (dec s p).1) :: charsFrom s (p + (dec s p).2) := by
  have := dec_pos s p
  unfold charsFrom
  rw [charsN_fuel (s.length - p) (s.length - p + 1) p (by omega) (by omega), charsN, if_pos h]
  rw [charsN_fuel (s.length - p) (s.length - (p + (dec s p).2)) _ (by omega) (by omega)]
theorem charsFrom_end {s : List UInt8} {p : Nat} (h : s.length ≤ p) : charsFrom s p = [] := charsN_end h
theorem charsN_len (s : List UInt8) : ∀ (n p : Nat), (charsN s n p).length ≤ n
  | 0, _ => by simp [charsN]
  | n + 1, p => by
    unfold charsN
    split
    · simp [charsN_len s n]
    · simp
theorem chars_len (s : List UInt8) : (charsFrom s 0).length ≤ s.length := charsN_len s _ _
theorem charsFrom_len (s : List UInt8) (p : Nat) : (charsFrom s p).length ≤ s.length - p := charsN_len s _ _
/-- Is this character none? -/
def wrongC (x : Nat × Nat × Nat) : Bool := decide (x.2.2 = 65533 ∧ x.2.1 ≠ 3)
def ctlC (x : Nat × Nat × Nat) : Bool := decide ((x.2.2 < 32 ∧ x.2.2 ≠ 9) ∨ x.2.2 = 127)
def chkL : List (Nat × Nat × Nat) → Nat → Nat × Int
  | [], _ => (0, 0)
  | x :: l, n => if n = 4096 then (n, 32) else if wrongC x = true then (n, 30) else if ctlC x = true then (n, 31) else chkL l (n + 1)
def chkF (s : List UInt8) : Nat × Int := chkL (charsFrom s 0) 0
/-- A replacement character in three bytes is the replacement character itself. -/
def hpB (s p : List UInt8) : Bool := p.isPrefixOf s
theorem enc_fffd : encL [65533] = [239, 191, 189] := by decide
theorem getB_mk (s : List UInt8) (i : Nat) : (⟨s.toArray⟩ : ByteArray).get! i = s.getD i 0 := by
  show s.toArray[i]! = _
  by_cases h : i < s.length
  · simp [h, List.getD]
  · simp [h, List.getD]; rfl
theorem dec_at' (s : List UInt8) (p : Nat) : dec s p = Lib.decodeN (s.length - p) (s.getD p 0).toNat (s.getD (p + 1) 0).toNat (s.getD (p + 2) 0).toNat (s.getD (p + 3) 0).toNat := by
  unfold dec
  rw [Lib.decode_at, getB_mk, getB_mk, getB_mk, getB_mk, size_mk]
theorem decN_fffd (n b0 b1 b2 b3 : Nat) (h0 : b0 < 256) (h1 : b1 < 256) (h2 : b2 < 256) (h : (Lib.decodeN n b0 b1 b2 b3).1 = 65533) : (Lib.decodeN n b0 b1 b2 b3).2 = 3 ↔ (2 < n ∧ b0 = 239 ∧ b1 = 191 ∧ b2 = 189) := by
  unfold Lib.decodeN at *
  constructor
  · intro h3
    (repeat' split at h3) <;> first | (exfalso; omega) | skip
    (repeat' split at h) <;> first | (exfalso; omega) | skip
    simp only at h
    omega
  · rintro ⟨hn, rfl, rfl, rfl⟩
    rw [if_neg (by omega), if_neg (by omega), if_pos (by omega), if_pos (by omega)]
theorem take3 (s : List UInt8) (p : Nat) (a b c : UInt8) : [a, b, c].isPrefixOf (s.drop p) = true ↔ (2 < s.length - p ∧ s.getD p 0 = a ∧ s.getD (p + 1) 0 = b ∧ s.getD (p + 2) 0 = c) := by
  have e : ∀ i, s.getD (p + i) 0 = (s.drop p).getD i 0 := by intro i; simp [List.getD]
  have e0 := e 0; have e1 := e 1; have e2 := e 2
  have el : s.length - p = (s.drop p).length := by simp
  rw [Nat.add_zero] at e0
  rw [e0, e1, e2, el]
  generalize s.drop p = l
  rcases l with _ | ⟨x, _ | ⟨y, _ | ⟨z, l⟩⟩⟩
  · simp [List.isPrefixOf]
  · simp [List.isPrefixOf]
  · simp [List.isPrefixOf]
  · simp only [List.isPrefixOf, List.getD, List.length_cons, Bool.and_true, Bool.and_eq_true, beq_iff_eq, List.getElem?_cons_zero, List.getElem?_cons_succ, Option.getD_some]
    constructor
    · rintro ⟨rfl, rfl, rfl⟩; exact ⟨by omega, rfl, rfl, rfl⟩
    · rintro ⟨_, rfl, rfl, rfl⟩; exact ⟨rfl, rfl, rfl⟩
theorem byte_is (s : List UInt8) (i k : Nat) (hk : k < 256) : s.getD i 0 = UInt8.ofNat k ↔ (s.getD i 0).toNat = k := by
  constructor
  · intro h; rw [h]; simp; omega
  · intro h; rw [← h]; simp
theorem wrong_dec (s : List UInt8) (p : Nat) (hr : (dec s p).1 = 65533) : (dec s p).2 = 3 ↔ hpB (s.drop p) [239, 191, 189] = true := by
  rw [dec_at'] at hr ⊢
  rw [decN_fffd _ _ _ _ _ (UInt8.toNat_lt _) (UInt8.toNat_lt _) (UInt8.toNat_lt _) hr]
  unfold hpB
  rw [take3]
  rw [show (239 : UInt8) = UInt8.ofNat 239 from rfl, show (191 : UInt8) = UInt8.ofNat 191 from rfl, show (189 : UInt8) = UInt8.ofNat 189 from rfl, byte_is _ _ _ (by decide), byte_is _ _ _ (by decide), byte_is _ _ _ (by decide)]
def wrongB (s : List UInt8) (p : Nat) (r : Int) : Bool := decide (r = 65533) && !hpB (s.drop p) (encL [r])
theorem wrong_eq (s : List UInt8) (p : Nat) : wrongB s p ((dec s p).1 : Nat) = wrongC (p, (dec s p).2, (dec s p).1) := by
  unfold wrongB wrongC
  by_cases h : (dec s p).1 = 65533
  · rw [h, show ((65533 : Nat) : Int) = 65533 from rfl, enc_fffd]
    have hw := wrong_dec s p h
    by_cases h3 : (dec s p).2 = 3
    · rw [hw.1 h3]; simp [h3]
    · have : hpB (s.drop p) [239, 191, 189] = false := by
        cases hb : hpB (s.drop p) [239, 191, 189] with
        | false => rfl
        | true => exact absurd (hw.2 hb) h3
      rw [this]; simp [h3]
  · have h' : ¬ (((dec s p).1 : Nat) : Int) = 65533 := by omega
    simp [h, h']
/-! ### the checks, character for character -/
theorem chk_end {s : List UInt8} {p n : Nat} (h : s.length ≤ p) : chkL (charsFrom s p) n = (0, 0) := by rw [charsFrom_end h]; rfl
theorem chk_wide {s : List UInt8} {p : Nat} (h : p < s.length) : chkL (charsFrom s p) 4096 = (4096, 32) := by rw [charsFrom_step h]; simp [chkL]
theorem chk_wrong {s : List UInt8} {p n : Nat} (h : p < s.length) (hn : n ≠ 4096) (hw : wrongB s p ((dec s p).1 : Nat) = true) : chkL (charsFrom s p) n = (n, 30) := by
  rw [wrong_eq] at hw
  rw [charsFrom_step h, chkL, if_neg hn, if_pos hw]
theorem chk_ctl {s : List UInt8} {p n : Nat} (h : p < s.length) (hn : n ≠ 4096) (hw : wrongB s p ((dec s p).1 : Nat) = false) (hc : ((dec s p).1 < 32 ∧ (dec s p).1 ≠ 9) ∨ (dec s p).1 = 127) : chkL (charsFrom s p) n = (n, 31) := by
  rw [wrong_eq] at hw
  rw [charsFrom_step h, chkL, if_neg hn, hw, if_neg (by simp), if_pos (by simpa [ctlC] using hc)]
theorem chk_on {s : List UInt8} {p n : Nat} (h : p < s.length) (hn : n ≠ 4096) (hw : wrongB s p ((dec s p).1 : Nat) = false) (hc : ¬ (((dec s p).1 < 32 ∧ (dec s p).1 ≠ 9) ∨ (dec s p).1 = 127)) : chkL (charsFrom s p) n = chkL (charsFrom s (p + (dec s p).2)) (n + 1) := by
  rw [wrong_eq] at hw
  conv => lhs; rw [charsFrom_step h, chkL, if_neg hn, hw, if_neg (by simp), if_neg (by simpa [ctlC] using hc)]
theorem chkL_range : ∀ (l : List (Nat × Nat × Nat)) (n : Nat), n ≤ 4096 → (chkL l n).1 ≤ 4096 ∧ 0 ≤ (chkL l n).2 ∧ (chkL l n).2 ≤ 32
  | [], n, h => by simp [chkL]
  | x :: l, n, h => by
    unfold chkL
    repeat' split
    · exact ⟨h, by simp, by simp⟩
    · exact ⟨h, by simp, by simp⟩
    · exact ⟨h, by simp, by simp⟩
    · exact chkL_range l (n + 1) (by omega)
theorem chkF_range (s : List UInt8) : (chkF s).1 ≤ 4096 ∧ 0 ≤ (chkF s).2 ∧ (chkF s).2 ≤ 32 := chkL_range _ _ (by omega)
end Go.FK
