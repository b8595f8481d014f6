/- Plain laws: the words of two texts with a blank between them. -/
import Derived.Test.YtbknjmjflfkhkaaPList
set_option linter.unusedVariables false
namespace Go.FK
open Go Go.RowKit
theorem decodeN_cont (n b0 b1 b2 b3 : Nat) : (2 ≤ (Lib.decodeN n b0 b1 b2 b3).2 → b1 / 64 = 2) ∧ (3 ≤ (Lib.decodeN n b0 b1 b2 b3).2 → b2 / 64 = 2) ∧ (4 ≤ (Lib.decodeN n b0 b1 b2 b3).2 → b3 / 64 = 2) ∧ (Lib.decodeN n b0 b1 b2 b3).2 ≤ 4 := by
  unfold Lib.decodeN
  (repeat' split) <;> simp only <;> omega
theorem dec_sep (a b : List UInt8) (p : Nat) (hp : p < a.length) : p + (dec (a ++ 32 :: b) p).2 ≤ a.length := by
  have h32 : (a ++ 32 :: b).getD a.length 0 = 32 := by
    have := getD_right a (32 :: b) 0
    rw [Nat.add_zero] at this; exact this
  rw [dec_at]
  obtain ⟨c1, c2, c3, c4⟩ := decodeN_cont ((a ++ 32 :: b).length - p) ((a ++ 32 :: b).getD p 0).toNat ((a ++ 32 :: b).getD (p + 1) 0).toNat ((a ++ 32 :: b).getD (p + 2) 0).toNat ((a ++ 32 :: b).getD (p + 3) 0).toNat
  generalize (Lib.decodeN ((a ++ 32 :: b).length - p) ((a ++ 32 :: b).getD p 0).toNat ((a ++ 32 :: b).getD (p + 1) 0).toNat ((a ++ 32 :: b).getD (p + 2) 0).toNat ((a ++ 32 :: b).getD (p + 3) 0).toNat).2 = w at *
  rcases Nat.lt_or_ge a.length (p + w) with h | h
  · exfalso
    have e : p + 1 = a.length ∨ p + 2 = a.length ∨ p + 3 = a.length := by omega
    rcases e with e | e | e
    · rw [e, h32] at c1; have := c1 (by omega); simp at this
    · rw [e, h32] at c2; have := c2 (by omega); simp at this
    · rw [e, h32] at c3; have := c3 (by omega); simp at this
  · exact h
theorem dec_32 (a b : List UInt8) : dec (a ++ 32 :: b) a.length = (32, 1) := by
  have := dec_right a (32 :: b) 0
  rw [Nat.add_zero] at this
  rw [this, dec_at]
  unfold Lib.decodeN
  simp
theorem take_sep {a b : List UInt8} {p : Nat} (h : p ≤ a.length) : (a ++ b).take p = a.take p := by
  rw [List.take_append_of_le_length h]
theorem words_left (a b : List UInt8) : ∀ (n p : Nat) (fr : Int), a.length - p ≤ n → p ≤ a.length → fr ≤ p →
    wordsFrom (a ++ 32 :: b) p fr = wordsFrom a p fr ++ wordsFrom (a ++ 32 :: b) (a.length + 1) (-1) := by
  intro n
  induction n with
  | zero =>
    intro p fr hn hp hf
    obtain rfl : p = a.length := by omega
    rw [wordsFrom_step (c := 32) (by simp) (by rw [dec_32]; rfl), dec_32, wordsFrom_end (Nat.le_refl _), if_pos (by decide)]
    split
    · rw [take_sep (Nat.le_refl _), List.take_length]; rfl
    · rename_i h
      have hf' : ∀ (s : List UInt8) (q : Nat) (fr : Int), fr < 0 → wordsFrom s q fr = wordsFrom s q (-1) := by
        intro s q fr hneg
        unfold wordsFrom
        generalize s.length - q = m
        induction m generalizing q with
        | zero => simp only [wordsN]; rw [if_neg (by omega), if_neg (by omega)]
        | succ m ih =>
          simp only [wordsN]
          have e1 : ¬ 0 ≤ fr := by omega
          have e2 : ¬ (0 : Int) ≤ -1 := by omega
          have e3 : (-1 : Int) < 0 := by omega
          simp only [if_neg e1, if_neg e2, if_pos hneg, if_pos e3, ih]
      rw [hf' _ _ _ (by omega)]; rfl
  | succ n ih =>
    intro p fr hn hp hf
    rcases Nat.lt_or_ge p a.length with h | h
    · have hd := dec_sep a b p h
      have he := dec_left h hd
      have h1 := dec_pos a p
      rw [wordsFrom_step (c := ((dec a p).1 : Int)) (by simp; omega) (by rw [he]), wordsFrom_step (s := a) (c := ((dec a p).1 : Int)) h rfl, ← he, take_sep (Nat.le_of_lt h)]
      rw [← he] at hd
      rw [ih _ (-1) (by omega) hd (by omega), ih _ fr (by omega) hd (by omega), ih _ p (by omega) hd (by omega)]
      repeat' split
      all_goals simp
    · exact ih p fr (by omega) hp hf
theorem words_right (c b : List UInt8) : ∀ (n q : Nat), b.length - q ≤ n →
    (wordsFrom (c ++ b) (c.length + q) (-1) = (wordsFrom b q (-1)).map (fun x : Int × List UInt8 => (x.1 + (c.length : Int), x.2))) ∧
    (∀ fr : Nat, wordsFrom (c ++ b) (c.length + q) ((fr : Int) + c.length) = (wordsFrom b q fr).map (fun x : Int × List UInt8 => (x.1 + (c.length : Int), x.2))) := by
  have hdrop : ∀ fr : Nat, ((fr : Int) + c.length).toNat = c.length + fr := by intro fr; omega
  intro n
  induction n with
  | zero =>
    intro q hn
    refine ⟨?_, fun fr => ?_⟩
    · rw [wordsFrom_end (by simp; omega), wordsFrom_end (by omega)]; simp
    · rw [wordsFrom_end (by simp; omega), wordsFrom_end (by omega), if_pos (by omega), if_pos (by omega), hdrop]
      simp
  | succ n ih =>
    intro q hn
    rcases Nat.lt_or_ge q b.length with h | h
    · have h1 := dec_pos b q
      obtain ⟨i1, i2⟩ := ih (q + (dec b q).2) (by omega)
      have hlt : c.length + q < (c ++ b).length := by simp; omega
      have htk : ∀ fr : Nat, ((c ++ b).take (c.length + q)).drop (c.length + fr) = (b.take q).drop fr := by
        intro fr
        rw [List.take_length_add_append, List.drop_length_add_append]
      refine ⟨?_, fun fr => ?_⟩
      · rw [wordsFrom_step (c := ((dec b q).1 : Int)) hlt (by rw [dec_right]), wordsFrom_step (s := b) (c := ((dec b q).1 : Int)) h rfl, dec_right, Nat.add_assoc, i1]
        have := i2 q
        rw [show ((c.length + q : Nat) : Int) = (q : Int) + c.length by omega, this]
        repeat' split
        all_goals first | rfl | (exfalso; omega)
      · rw [wordsFrom_step (c := ((dec b q).1 : Int)) hlt (by rw [dec_right]), wordsFrom_step (s := b) (c := ((dec b q).1 : Int)) h rfl, dec_right, Nat.add_assoc, i1, i2 fr, hdrop, htk, Int.toNat_natCast]
        rw [if_pos (show 0 ≤ (fr : Int) + c.length by omega), if_pos (show 0 ≤ (fr : Int) by omega), if_neg (show ¬ (fr : Int) + c.length < 0 by omega), if_neg (show ¬ (fr : Int) < 0 by omega)]
        split
        · rfl
        · rfl
    · exact ih q (by omega)
def textsOf (s : List UInt8) : List (List UInt8) := (wordsOf s).map (·.2)
theorem texts_sep (a b : List UInt8) : textsOf (a ++ 32 :: b) = textsOf a ++ textsOf b := by
  unfold textsOf wordsOf
  rw [words_left a b _ 0 (-1) (Nat.le_refl _) (by omega) (by omega), List.map_append]
  congr 1
  have h := (words_right (a ++ [32]) b _ 0 (Nat.le_refl _)).1
  rw [List.append_assoc, Nat.add_zero] at h
  have e : (a ++ [32]).length = a.length + 1 := by simp
  rw [e] at h
  have e2 : a ++ ([32] ++ b) = a ++ 32 :: b := rfl
  rw [e2] at h
  rw [h, List.map_map]
  rfl
end Go.FK
