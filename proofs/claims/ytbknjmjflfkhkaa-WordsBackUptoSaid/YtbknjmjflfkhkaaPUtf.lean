/- PUtf: the reference's reading of a character is the model's: no program in sight. -/
import Derived.Test.YtbknjmjflfkhkaaPWords
import Derived.Lib.DecodeN
namespace Go.FK
open Go

theorem get!_mk (s : List UInt8) (i : Nat) : (⟨s.toArray⟩ : ByteArray).get! i = s.getD i 0 := by
  show s.toArray[i]! = _
  by_cases h : i < s.length
  · simp [h, List.getD]
  · simp [h, List.getD]; rfl
theorem dec_at (s : List UInt8) (p : Nat) : dec s p = Lib.decodeN (s.length - p) (s.getD p 0).toNat (s.getD (p + 1) 0).toNat (s.getD (p + 2) 0).toNat (s.getD (p + 3) 0).toNat := by
  unfold dec
  rw [Lib.decode_at, get!_mk, get!_mk, get!_mk, get!_mk, size_mk]
theorem atN_some {s : List UInt8} {p f i x : Nat} (h : p + i < s.length) : atN s p (f + 1) i x = if (s.getD (p + i) 0).toNat < 128 ∨ 191 < (s.getD (p + i) 0).toNat then (12, 0) else atN s p f (i + 1) (x * 64 + (s.getD (p + i) 0).toNat - 128) := by
  rw [atN, List.getElem?_eq_getElem h]
  simp [List.getD, h]
theorem atN_none {s : List UInt8} {p f i x : Nat} (h : s.length ≤ p + i) : atN s p (f + 1) i x = (11, 0) := by
  rw [atN, List.getElem?_eq_none h]
theorem bad_fin {n k : Nat} (h : k ≠ 0) : finF n (k, 0) = (1, 65533, (k : Int)) := by unfold finF; rw [if_pos h]
theorem atN_zero (s : List UInt8) (p i x : Nat) : atN s p 0 i x = (0, x) := rfl
theorem fin_ok {n x m : Nat} (hm : leastT[n]? = some m) : finF n (0, x) = if x < m then (1, 65533, 13) else if 55296 ≤ x ∧ x ≤ 57343 then (1, 65533, 14) else if 1114111 < x then (1, 65533, 15) else (n, (x : Int), 0) := by
  unfold finF
  rw [List.getD_eq_getElem?_getD, hm]
  rfl
set_option maxRecDepth 100000 in
/-- The reference's tail, written out. -/
theorem at_dec (s : List UInt8) (p : Nat) (h : p < s.length) : (atF s p).1 = (dec s p).2 ∧ (atF s p).2.1 = ((dec s p).1 : Int) := by
  rw [dec_at]
  unfold atF
  have h0 := (s.getD p 0).toNat_lt
  have h1 := (s.getD (p + 1) 0).toNat_lt
  have h2 := (s.getD (p + 2) 0).toNat_lt
  have h3 := (s.getD (p + 3) 0).toNat_lt
  have e1 : ∀ f x, p + 1 < s.length → atN s p (f + 1) 1 x = _ := fun f x hh => atN_some hh
  have e2 : ∀ f x, p + 2 < s.length → atN s p (f + 1) 2 x = _ := fun f x hh => atN_some hh
  have e3 : ∀ f x, p + 3 < s.length → atN s p (f + 1) 3 x = _ := fun f x hh => atN_some hh
  generalize (s.getD p 0).toNat = b0 at *
  generalize (s.getD (p + 1) 0).toNat = b1 at *
  generalize (s.getD (p + 2) 0).toNat = b2 at *
  generalize (s.getD (p + 3) 0).toNat = b3 at *
  simp only
  have a1 : b0 &&& 127 = b0 % 128 := Nat.and_two_pow_sub_one_eq_mod b0 7
  have a2 : b0 &&& 31 = b0 % 32 := Nat.and_two_pow_sub_one_eq_mod b0 5
  have a3 : b0 &&& 15 = b0 % 16 := Nat.and_two_pow_sub_one_eq_mod b0 4
  have a4 : b0 &&& 7 = b0 % 8 := Nat.and_two_pow_sub_one_eq_mod b0 3
  rcases (by omega : b0 < 128 ∨ (128 ≤ b0 ∧ b0 < 192 ∨ 247 < b0) ∨ (192 ≤ b0 ∧ b0 < 224) ∨ (224 ≤ b0 ∧ b0 < 240) ∨ (240 ≤ b0 ∧ b0 ≤ 247)) with hb | hb | hb | hb | hb
  · have hl : longN (b0 : Int) = 1 := by unfold longN; rw [if_pos (by omega)]
    rw [hl, if_neg (by decide)]
    simp only [atG, atN, Nat.sub_self, bitsT, List.getD_cons_succ, List.getD_cons_zero, a1, finF, leastT, Lib.decodeN, hb, if_true]
    rw [if_neg (by simp), if_neg (by omega), if_neg (by omega), if_neg (by omega)]
    exact ⟨rfl, by simp only; omega⟩
  · have hl : longN (b0 : Int) = 0 := by unfold longN; rw [if_neg (by omega), if_pos (by omega)]
    rw [hl, if_pos rfl]
    unfold Lib.decodeN
    rw [if_neg (by omega), if_neg (by omega), if_neg (by omega), if_neg (by omega)]
    exact ⟨rfl, rfl⟩
  · have hl : longN (b0 : Int) = 2 := by unfold longN; rw [if_neg (by omega), if_neg (by omega), if_pos (by omega)]
    rw [hl, if_neg (by decide)]
    simp only [atG, Nat.reduceSub, bitsT, List.getD_cons_succ, List.getD_cons_zero, a2, Lib.decodeN]
    by_cases q1 : p + 1 < s.length
    · rw [e1 _ _ q1]
      by_cases r1 : b1 < 128 ∨ 191 < b1
      · rw [if_pos r1, bad_fin (by decide), if_neg (by omega), if_neg (by omega), if_neg (by omega), if_neg (by omega)]
        exact ⟨rfl, rfl⟩
      · rw [if_neg r1, if_neg (by omega), if_pos (by omega)]
        rw [atN_zero, fin_ok (m := 128) rfl]
        repeat' split
        all_goals first | (exfalso; omega) | exact ⟨rfl, rfl⟩ | exact ⟨rfl, by simp only; omega⟩
    · rw [atN_none (by omega), bad_fin (by decide), if_neg (by omega), if_neg (by omega), if_neg (by omega), if_neg (by omega)]
      exact ⟨rfl, rfl⟩
  · have hl : longN (b0 : Int) = 3 := by unfold longN; rw [if_neg (by omega), if_neg (by omega), if_neg (by omega), if_pos (by omega)]
    rw [hl, if_neg (by decide)]
    simp only [atG, Nat.reduceSub, bitsT, List.getD_cons_succ, List.getD_cons_zero, a3, Lib.decodeN]
    by_cases q1 : p + 1 < s.length ∧ ¬ (b1 < 128 ∨ 191 < b1)
    · rw [e1 _ _ q1.1, if_neg q1.2]
      by_cases q2 : p + 2 < s.length ∧ ¬ (b2 < 128 ∨ 191 < b2)
      · rw [e2 _ _ q2.1, if_neg q2.2, if_neg (by omega), if_neg (by omega), if_pos (by omega)]
        rw [atN_zero, fin_ok (m := 2048) rfl]
        repeat' split
        all_goals first | (exfalso; omega) | exact ⟨rfl, rfl⟩ | exact ⟨rfl, by simp only; omega⟩
      · by_cases q3 : p + 2 < s.length
        · rw [e2 _ _ q3, if_pos (by omega), bad_fin (by decide), if_neg (by omega), if_neg (by omega), if_neg (by omega), if_neg (by omega)]
          exact ⟨rfl, rfl⟩
        · rw [atN_none (by omega), bad_fin (by decide), if_neg (by omega), if_neg (by omega), if_neg (by omega), if_neg (by omega)]
          exact ⟨rfl, rfl⟩
    · by_cases q3 : p + 1 < s.length
      · rw [e1 _ _ q3, if_pos (by omega), bad_fin (by decide), if_neg (by omega), if_neg (by omega), if_neg (by omega), if_neg (by omega)]
        exact ⟨rfl, rfl⟩
      · rw [atN_none (by omega), bad_fin (by decide), if_neg (by omega), if_neg (by omega), if_neg (by omega), if_neg (by omega)]
        exact ⟨rfl, rfl⟩
  · have hl : longN (b0 : Int) = 4 := by unfold longN; rw [if_neg (by omega), if_neg (by omega), if_neg (by omega), if_neg (by omega)]
    rw [hl, if_neg (by decide)]
    simp only [atG, Nat.reduceSub, bitsT, List.getD_cons_succ, List.getD_cons_zero, a4, Lib.decodeN]
    by_cases q1 : p + 1 < s.length ∧ ¬ (b1 < 128 ∨ 191 < b1)
    · rw [e1 _ _ q1.1, if_neg q1.2]
      by_cases q2 : p + 2 < s.length ∧ ¬ (b2 < 128 ∨ 191 < b2)
      · rw [e2 _ _ q2.1, if_neg q2.2]
        by_cases q3 : p + 3 < s.length ∧ ¬ (b3 < 128 ∨ 191 < b3)
        · rw [e3 _ _ q3.1, if_neg q3.2, if_neg (by omega), if_neg (by omega), if_neg (by omega), if_pos (by omega)]
          rw [atN_zero, fin_ok (m := 65536) rfl]
          repeat' split
          all_goals first | (exfalso; omega) | exact ⟨rfl, rfl⟩ | exact ⟨rfl, by simp only; omega⟩
        · by_cases q4 : p + 3 < s.length
          · rw [e3 _ _ q4, if_pos (by omega), bad_fin (by decide), if_neg (by omega), if_neg (by omega), if_neg (by omega), if_neg (by omega)]
            exact ⟨rfl, rfl⟩
          · rw [atN_none (by omega), bad_fin (by decide), if_neg (by omega), if_neg (by omega), if_neg (by omega), if_neg (by omega)]
            exact ⟨rfl, rfl⟩
      · by_cases q3 : p + 2 < s.length
        · rw [e2 _ _ q3, if_pos (by omega), bad_fin (by decide), if_neg (by omega), if_neg (by omega), if_neg (by omega), if_neg (by omega)]
          exact ⟨rfl, rfl⟩
        · rw [atN_none (by omega), bad_fin (by decide), if_neg (by omega), if_neg (by omega), if_neg (by omega), if_neg (by omega)]
          exact ⟨rfl, rfl⟩
    · by_cases q3 : p + 1 < s.length
      · rw [e1 _ _ q3, if_pos (by omega), bad_fin (by decide), if_neg (by omega), if_neg (by omega), if_neg (by omega), if_neg (by omega)]
        exact ⟨rfl, rfl⟩
      · rw [atN_none (by omega), bad_fin (by decide), if_neg (by omega), if_neg (by omega), if_neg (by omega), if_neg (by omega)]
        exact ⟨rfl, rfl⟩
theorem spots_runes (s : List UInt8) : ∀ (n p : Nat), (spotsN s n p).map (fun x => x.2.2.1) = runesN s n p
  | 0, _ => rfl
  | n + 1, p => by
    unfold spotsN runesN
    by_cases h : p < s.length
    · rw [if_pos h, if_pos h, List.map_cons, spots_runes s n, (at_dec s p h).1]
      simp only
      rw [(at_dec s p h).2]
    · rw [if_neg h, if_neg h]; rfl
theorem rrunes_eq (s : List UInt8) : rrunes s = runesFrom s 0 := spots_runes s _ _
theorem runesN_len (s : List UInt8) : ∀ (n p : Nat), (runesN s n p).length ≤ n
  | 0, _ => by simp [runesN]
  | n + 1, p => by
    unfold runesN
    split
    · simp [runesN_len s n]
    · simp
theorem runes_len (s : List UInt8) : (runesFrom s 0).length ≤ s.length := runesN_len s _ _
theorem runesN_range (s : List UInt8) : ∀ (n p : Nat), ∀ x ∈ runesN s n p, 0 ≤ x ∧ x ≤ 2147483647
  | 0, _ => by simp [runesN]
  | n + 1, p => by
    unfold runesN
    split
    · intro x hx
      rcases List.mem_cons.1 hx with rfl | hx
      · have := dec_le s p; omega
      · exact runesN_range s n _ x hx
    · simp
theorem loose_range {s : List UInt8} : ∀ x ∈ looseL (runesFrom s 0), -2147483648 ≤ x ∧ x ≤ 2147483647 := by
  intro x hx
  simp only [looseL, List.mem_map, List.mem_filter] at hx
  obtain ⟨y, ⟨hy, _⟩, rfl⟩ := hx
  have := runesN_range s _ _ y hy
  unfold lowerI
  split <;> omega
end Go.FK
