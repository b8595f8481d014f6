/- Plain laws for the loose form of a loose form, and for a seam between two texts. -/
import Derived.Test.YtbknjmjflfkhkaaPNames
set_option linter.unusedVariables false
namespace Go.FK
open Go Go.RowKit
/-! ### a character that lies in the first text -/
theorem decodeN_1 {n N b0 b1 b2 b3 c1 c2 c3 : Nat} (hn : n = 1) (hN : n ≤ N) (hw : (Lib.decodeN N b0 c1 c2 c3).2 ≤ n) : Lib.decodeN n b0 b1 b2 b3 = Lib.decodeN N b0 c1 c2 c3 := by
  subst hn
  generalize hR : Lib.decodeN N b0 c1 c2 c3 = R at hw ⊢
  unfold Lib.decodeN at hR
  (repeat' split at hR) <;> subst hR <;> (try dsimp only at hw) <;> unfold Lib.decodeN <;> (repeat' split) <;> first | (exfalso; omega) | rfl
theorem decodeN_2 {n N b0 b1 b2 b3 c2 c3 : Nat} (hn : n = 2) (hN : n ≤ N) (hw : (Lib.decodeN N b0 b1 c2 c3).2 ≤ n) : Lib.decodeN n b0 b1 b2 b3 = Lib.decodeN N b0 b1 c2 c3 := by
  subst hn
  generalize hR : Lib.decodeN N b0 b1 c2 c3 = R at hw ⊢
  unfold Lib.decodeN at hR
  (repeat' split at hR) <;> subst hR <;> (try dsimp only at hw) <;> unfold Lib.decodeN <;> (repeat' split) <;> first | (exfalso; omega) | rfl
theorem decodeN_3 {n N b0 b1 b2 b3 c3 : Nat} (hn : n = 3) (hN : n ≤ N) (hw : (Lib.decodeN N b0 b1 b2 c3).2 ≤ n) : Lib.decodeN n b0 b1 b2 b3 = Lib.decodeN N b0 b1 b2 c3 := by
  subst hn
  generalize hR : Lib.decodeN N b0 b1 b2 c3 = R at hw ⊢
  unfold Lib.decodeN at hR
  (repeat' split at hR) <;> subst hR <;> (try dsimp only at hw) <;> unfold Lib.decodeN <;> (repeat' split) <;> first | (exfalso; omega) | rfl
theorem decodeN_4 {n N b0 b1 b2 b3 : Nat} (hn : 4 ≤ n) (hN : n ≤ N) : Lib.decodeN n b0 b1 b2 b3 = Lib.decodeN N b0 b1 b2 b3 := by
  generalize hR : Lib.decodeN N b0 b1 b2 b3 = R
  unfold Lib.decodeN at hR
  (repeat' split at hR) <;> subst hR <;> unfold Lib.decodeN <;> (repeat' split) <;> first | (exfalso; omega) | rfl
theorem getD_left {a b : List UInt8} {i : Nat} (h : i < a.length) : (a ++ b).getD i 0 = a.getD i 0 := by
  rw [List.getD_eq_getElem?_getD, List.getD_eq_getElem?_getD, List.getElem?_append_left h]
theorem getD_right (a b : List UInt8) (i : Nat) : (a ++ b).getD (a.length + i) 0 = b.getD i 0 := by
  rw [List.getD_eq_getElem?_getD, List.getD_eq_getElem?_getD, List.getElem?_append_right (by omega)]
  congr 2
  omega
theorem dec_left {a b : List UInt8} {p : Nat} (hp : p < a.length) (hw : p + (dec (a ++ b) p).2 ≤ a.length) : dec a p = dec (a ++ b) p := by
  rw [dec_at] at hw ⊢
  rw [dec_at]
  have hl : (a ++ b).length = a.length + b.length := List.length_append
  rw [hl] at hw ⊢
  rw [getD_left hp] at hw ⊢
  have hw2 := Nat.le_sub_of_add_le' hw
  rcases Nat.lt_or_ge (p + 1) a.length with h1 | h1
  · rw [getD_left h1] at hw2 ⊢
    rcases Nat.lt_or_ge (p + 2) a.length with h2 | h2
    · rw [getD_left h2] at hw2 ⊢
      rcases Nat.lt_or_ge (p + 3) a.length with h3 | h3
      · rw [getD_left h3]
        exact decodeN_4 (by omega) (by omega)
      · exact decodeN_3 (by omega) (by omega) hw2
    · exact decodeN_2 (by omega) (by omega) hw2
  · exact decodeN_1 (by omega) (by omega) hw2
theorem dec_right (a b : List UInt8) (q : Nat) : dec (a ++ b) (a.length + q) = dec b q := by
  rw [dec_at, dec_at, getD_right, Nat.add_assoc, getD_right, Nat.add_assoc, getD_right, Nat.add_assoc, getD_right]
  rw [show (a ++ b).length - (a.length + q) = b.length - q by rw [List.length_append]; omega]
theorem runesN_right (a b : List UInt8) : ∀ (n q : Nat), runesN (a ++ b) n (a.length + q) = runesN b n q
  | 0, _ => rfl
  | n + 1, q => by
    unfold runesN
    rw [dec_right, Nat.add_assoc, runesN_right a b n]
    by_cases h : q < b.length
    · rw [if_pos (by rw [List.length_append]; omega), if_pos h]
    · rw [if_neg (by rw [List.length_append]; omega), if_neg h]
theorem runes_right (a b : List UInt8) (q : Nat) : runesFrom (a ++ b) (a.length + q) = runesFrom b q := by
  unfold runesFrom
  rw [runesN_right, show (a ++ b).length - (a.length + q) = b.length - q by rw [List.length_append]; omega]
/-! ### a character written is read -/
theorem u8n (n : Nat) (h : n < 256) : (UInt8.ofNat n).toNat = n := by rw [UInt8.toNat_ofNat']; omega
theorem dec_enc {r : Int} (h : scalarB r = true) (t : List UInt8) : ((dec (encL [r] ++ t) 0).1 : Int) = r ∧ (dec (encL [r] ++ t) 0).2 = (encL [r]).length := by
  obtain ⟨n, rfl⟩ : ∃ n : Nat, r = n := ⟨r.toNat, by simp [scalarB] at h; omega⟩
  have h2 : n ≤ 1114111 ∧ (n < 55296 ∨ 57343 < n) := by simp [scalarB] at h; omega
  rw [dec_at, enc_ok h rfl]
  split
  · rename_i h1
    simp only [List.cons_append, List.nil_append, List.getD_cons_zero, u8n n (by omega), List.length_cons, List.length_nil]
    unfold Lib.decodeN
    rw [if_pos h1]; exact ⟨rfl, rfl⟩
  · split
    · rename_i h0 h1
      simp only [List.cons_append, List.nil_append, Nat.zero_add, List.getD_cons_zero, List.getD_cons_succ, u8n (192 + n / 64) (by omega), u8n (128 + n % 64) (by omega), List.length_cons, List.length_nil]
      unfold Lib.decodeN
      rw [if_neg (by omega), if_pos (by omega), if_pos (by omega)]
      refine ⟨?_, rfl⟩
      simp only; omega
    · split
      · rename_i h0 h3 h1
        simp only [List.cons_append, List.nil_append, Nat.zero_add, List.getD_cons_zero, List.getD_cons_succ, u8n (224 + n / 4096) (by omega), u8n (128 + n / 64 % 64) (by omega), u8n (128 + n % 64) (by omega), List.length_cons, List.length_nil]
        unfold Lib.decodeN
        rw [if_neg (by omega), if_neg (by omega), if_pos (by omega), if_pos (by omega)]
        refine ⟨?_, rfl⟩
        simp only; omega
      · rename_i h0 h3 h1
        simp only [List.cons_append, List.nil_append, Nat.zero_add, List.getD_cons_zero, List.getD_cons_succ, u8n (240 + n / 262144) (by omega), u8n (128 + n / 4096 % 64) (by omega), u8n (128 + n / 64 % 64) (by omega), u8n (128 + n % 64) (by omega), List.length_cons, List.length_nil]
        unfold Lib.decodeN
        rw [if_neg (by omega), if_neg (by omega), if_neg (by omega), if_pos (by omega), if_pos (by omega)]
        refine ⟨?_, rfl⟩
        simp only; omega
theorem encL_cons (r : Int) (l : List Int) : encL (r :: l) = encL [r] ++ encL l := by simp [encL]
theorem encL_app (l m : List Int) : encL (l ++ m) = encL l ++ encL m := by simp [encL]
theorem runes_enc : ∀ (l : List Int), (∀ x ∈ l, scalarB x = true) → runesFrom (encL l) 0 = l
  | [], _ => by rw [runesFrom_end (by simp [encL])]
  | r :: l, h => by
    have h1 := h r (by simp)
    rw [encL_cons]
    obtain ⟨e1, e2⟩ := dec_enc h1 (encL l)
    have hp : 0 < (encL [r]).length := by rw [← e2]; exact dec_pos _ _
    rw [runesFrom_step (by rw [List.length_append]; omega), e1, e2, Nat.zero_add]
    have := runes_right (encL [r]) (encL l) 0
    rw [Nat.add_zero] at this
    rw [this, runes_enc l (fun x hx => h x (by simp [hx]))]
theorem dec_scalar (s : List UInt8) (p : Nat) : scalarB ((dec s p).1 : Int) = true := by
  rw [dec_at]
  have key : ∀ n b0 b1 b2 b3, (Lib.decodeN n b0 b1 b2 b3).1 < 55296 ∨ 57343 < (Lib.decodeN n b0 b1 b2 b3).1 ∧ (Lib.decodeN n b0 b1 b2 b3).1 ≤ 1114111 := by
    intro n b0 b1 b2 b3
    unfold Lib.decodeN
    (repeat' split) <;> simp only <;> omega
  have := key (s.length - p) (s.getD p 0).toNat (s.getD (p + 1) 0).toNat (s.getD (p + 2) 0).toNat (s.getD (p + 3) 0).toNat
  simp only [scalarB, Bool.and_eq_true, Bool.or_eq_true, decide_eq_true_eq]; omega
theorem runesN_scalar (s : List UInt8) : ∀ (n p : Nat), ∀ x ∈ runesN s n p, scalarB x = true
  | 0, _ => by simp [runesN]
  | n + 1, p => by
    unfold runesN
    split
    · intro x hx
      rcases List.mem_cons.1 hx with rfl | hx
      · exact dec_scalar s p
      · exact runesN_scalar s n _ x hx
    · simp
theorem loose_mem {l : List Int} {x : Int} (h : x ∈ looseL l) : ∃ y ∈ l, dropB y = false ∧ x = lowerI y := by
  simp only [looseL, List.mem_map, List.mem_filter] at h
  obtain ⟨y, ⟨hy, hd⟩, rfl⟩ := h
  exact ⟨y, hy, by simpa using hd, rfl⟩
theorem lower_fix (y : Int) : lowerI (lowerI y) = lowerI y ∧ (dropB y = false → dropB (lowerI y) = false) ∧ (scalarB y = true → scalarB (lowerI y) = true) := by
  unfold lowerI
  split
  · refine ⟨by rw [if_neg (by omega)], fun _ => ?_, fun _ => ?_⟩
    · simp [dropB, blankB]; omega
    · simp [scalarB]; omega
  · rename_i h
    exact ⟨by first | rfl | rw [if_neg h], id, id⟩
theorem loose_fix : ∀ l : List Int, looseL (looseL l) = looseL l
  | [] => rfl
  | y :: l => by
    rw [looseL_cons]
    cases h : dropB y with
    | true => simpa using loose_fix l
    | false =>
      obtain ⟨h1, h2, _⟩ := lower_fix y
      simp only [Bool.false_eq_true, if_false]
      rw [looseL_cons, h2 h, h1, loose_fix l]; simp
theorem looseS_idem (s : List UInt8) : looseS (looseS s) = looseS s := by
  unfold looseS
  rw [runes_enc, loose_fix]
  intro x hx
  obtain ⟨y, hy, _, rfl⟩ := loose_mem hx
  exact (lower_fix y).2.2 (runesN_scalar s _ _ y hy)
theorem looseS_len (s : List UInt8) : (looseS s).length ≤ 4 * s.length := by
  unfold looseS
  have h1 := encL_len (looseL (runesFrom s 0))
  have h2 := runes_len s
  have h3 : (looseL (runesFrom s 0)).length ≤ (runesFrom s 0).length := by simp [looseL]; exact List.length_filter_le _ _
  omega
theorem alikeB_comm (a b : List UInt8) : alikeB a b = alikeB b a := by
  unfold alikeB
  rw [Bool.eq_iff_iff]; simp [eq_comm]
theorem alikeB_loose (a : List UInt8) : alikeB a (looseS a) = true := by
  unfold alikeB; rw [looseS_idem]; simp
/-! ### seams -/
def seamI (a b : List UInt8) (pos : Nat) : Prop := pos ≤ a.length → ∃ pre, runesFrom (a ++ b) 0 = pre ++ runesFrom (a ++ b) pos ∧ runesFrom a 0 = pre ++ runesFrom a pos
theorem seam_start (a b : List UInt8) : seamI a b 0 := fun _ => ⟨[], rfl, rfl⟩
theorem seam_step {a b : List UInt8} {pos : Nat} (h : pos < (a ++ b).length) (hs : seamI a b pos) : seamI a b (pos + (dec (a ++ b) pos).2) := by
  intro hp
  have h1 := dec_pos (a ++ b) pos
  obtain ⟨pre, e1, e2⟩ := hs (by omega)
  have hd := dec_left (by omega) hp
  refine ⟨pre ++ [((dec (a ++ b) pos).1 : Int)], ?_, ?_⟩
  · rw [e1, runesFrom_step h]; simp
  · rw [e2, runesFrom_step (by omega), hd]; simp
theorem seam_at {a b : List UInt8} (hs : seamI a b a.length) : looseS (a ++ b) = looseS a ++ looseS b := by
  obtain ⟨pre, e1, e2⟩ := hs (Nat.le_refl _)
  have e3 := runes_right a b 0
  rw [Nat.add_zero] at e3
  rw [e3] at e1
  rw [runesFrom_end (Nat.le_refl _), List.append_nil] at e2
  unfold looseS
  rw [e1, e2, ← encL_app]
  simp [looseL]
end Go.FK
