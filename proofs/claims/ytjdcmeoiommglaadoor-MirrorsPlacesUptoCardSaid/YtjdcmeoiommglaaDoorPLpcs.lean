/- Plain functions of chapter 3: the pieces of a text, and what is told of them. -/
import Derived.Test.YtjdcmeoiommglaaDoorPLfld
set_option linter.unusedVariables false
namespace Go.FK
open Go Go.RowKit
def encPc (x : Int × Int × Int) : List Value := [.int .i64 x.1, .int .i64 x.2.1, .int .i64 x.2.2]
def markT : List UInt8 := [239, 187, 191]
def markN (s : List UInt8) : Nat := if hpB s markT = true then 3 else 0
theorem mark_len (s : List UInt8) : markN s ≤ s.length := by
  unfold markN
  split
  · exact hp_len (p := markT) (by assumption)
  · exact Nat.zero_le _
def crN (s : List UInt8) (a i : Nat) : Nat := if a < i ∧ s.getD (i - 1) 0 = 13 then i - 1 else i
theorem crN_le (s : List UInt8) (a i : Nat) : crN s a i ≤ i ∧ (a ≤ i → a ≤ crN s a i) := by unfold crN; split <;> omega
def pcsN (s : List UInt8) : Nat → Nat → Nat → List (Nat × Nat × Nat)
  | 0, a, _ => [(a, s.length, s.length)]
  | n + 1, a, i => if s.getD i 0 = 10 then (a, crN s a i, i + 1) :: pcsN s n (i + 1) (i + 1) else pcsN s n a (i + 1)
def pcsFrom (s : List UInt8) (a i : Nat) : List (Nat × Nat × Nat) := pcsN s (s.length - i) a i
theorem pcs_end {s : List UInt8} {a i : Nat} (h : s.length ≤ i) : pcsFrom s a i = [(a, s.length, s.length)] := by
  unfold pcsFrom; rw [show s.length - i = 0 by omega]; rfl
theorem getD_some {s : List UInt8} {i : Nat} {c : UInt8} (h : s[i]? = some c) : s.getD i 0 = c := by simp [List.getD, h]
theorem pcs_nl {s : List UInt8} {a i : Nat} {c : UInt8} (hc : s[i]? = some c) (h : c.toNat = 10) : pcsFrom s a i = (a, crN s a i, i + 1) :: pcsFrom s (i + 1) (i + 1) := by
  have hlt : i < s.length := (List.getElem?_eq_some_iff.1 hc).1
  have e : c = 10 := UInt8.toNat_inj.1 h
  unfold pcsFrom
  rw [show s.length - i = s.length - (i + 1) + 1 by omega, pcsN, getD_some hc, if_pos e]
theorem pcs_on {s : List UInt8} {a i : Nat} {c : UInt8} (hc : s[i]? = some c) (h : c.toNat ≠ 10) : pcsFrom s a i = pcsFrom s a (i + 1) := by
  have hlt : i < s.length := (List.getElem?_eq_some_iff.1 hc).1
  have e : c ≠ 10 := fun e => h (by rw [e]; rfl)
  unfold pcsFrom
  rw [show s.length - i = s.length - (i + 1) + 1 by omega, pcsN, getD_some hc, if_neg e]
theorem pcs_skip {s : List UInt8} {a k : Nat} : ∀ (n i : Nat), k - i = n → i ≤ k → k ≤ s.length → noB 10 s i k → pcsFrom s a i = pcsFrom s a k
  | 0, i, h, h1, _, _ => by obtain rfl : i = k := by omega
                            rfl
  | n + 1, i, h, h1, h2, h3 => by
    obtain ⟨c, hc⟩ := get_some s i (by omega)
    rw [pcs_on hc (fun e => h3 i c (Nat.le_refl _) (by omega) hc (UInt8.toNat_inj.1 e))]
    exact pcs_skip n (i + 1) (by omega) (by omega) h2 (fun j c h4 h5 => h3 j c (by omega) h5)
def ibF (s : List UInt8) (c : Int) : Int := Lib.indexByte s c.toNat.toUInt8
theorem ib_spec (l : List UInt8) : (ibF l 10 = -1 ∧ ∀ (j : Nat) (c : UInt8), l[j]? = some c → c ≠ 10) ∨ ∃ k : Nat, ibF l 10 = k ∧ k < l.length ∧ l[k]? = some 10 ∧ ∀ (j : Nat) (c : UInt8), j < k → l[j]? = some c → c ≠ 10 := by
  show (Lib.indexByte l 10 = -1 ∧ _) ∨ ∃ k : Nat, Lib.indexByte l 10 = k ∧ _
  induction l with
  | nil => exact .inl ⟨rfl, fun j c h => by simp at h⟩
  | cons x l ih =>
    rw [Lib.indexByte]
    by_cases hx : x = 10
    · subst hx
      exact .inr ⟨0, by simp, by simp, by simp, fun j c h => by omega⟩
    · have hb : (x == 10) = false := by simpa using hx
      rw [hb]
      rcases ih with ⟨h1, h2⟩ | ⟨k, h1, h2, h3, h4⟩
      · rw [h1]
        refine .inl ⟨by simp, fun j c h => ?_⟩
        cases j with
        | zero => simp at h; subst h; exact hx
        | succ j => exact h2 j c (by simpa using h)
      · rw [h1]
        have hk : (((k : Nat) : Int) == -1) = false := by rw [beq_eq_false_iff_ne]; omega
        rw [hk]
        refine .inr ⟨k + 1, by simp, by simp; omega, by simpa using h3, fun j c hj h => ?_⟩
        cases j with
        | zero => simp at h; subst h; exact hx
        | succ j => exact h4 j c (by omega) (by simpa using h)
/-- In integers, as the program keeps them. -/
def toI (p : Nat × Nat × Nat) : Int × Int × Int := ((p.1 : Int), (p.2.1 : Int), (p.2.2 : Int))
def pcsI (s : List UInt8) : List (Int × Int × Int) := (pcsFrom s (markN s) (markN s)).map toI
theorem pcsI_end {s : List UInt8} {a : Nat} {acc : List (Int × Int × Int)} (ha : a ≤ s.length) (hn : ibF (s.drop a) 10 < 0) (hi : acc ++ (pcsFrom s a a).map toI = pcsI s) : acc ++ [((a : Int), (s.length : Int), (s.length : Int))] = pcsI s := by
  rcases ib_spec (s.drop a) with ⟨h1, h2⟩ | ⟨k, h1, h2, h3, h4⟩
  · rw [← hi, pcs_skip (s := s) (a := a) (k := s.length) _ a rfl ha (Nat.le_refl _) (fun j c h5 h6 h7 => h2 (j - a) c (by rw [List.getElem?_drop, show a + (j - a) = j by omega]; exact h7)), pcs_end (Nat.le_refl _)]
    rfl
  · omega
theorem ib_at {s : List UInt8} {a : Nat} (hn : 0 ≤ ibF (s.drop a) 10) : a + (ibF (s.drop a) 10).toNat < s.length ∧ s[a + (ibF (s.drop a) 10).toNat]? = some 10 ∧ noB 10 s a (a + (ibF (s.drop a) 10).toNat) := by
  rcases ib_spec (s.drop a) with ⟨h1, h2⟩ | ⟨k, h1, h2, h3, h4⟩
  · omega
  · rw [h1, Int.toNat_natCast]
    rw [List.length_drop] at h2
    rw [List.getElem?_drop] at h3
    refine ⟨by omega, h3, fun j c h5 h6 h7 => h4 (j - a) c (by omega) (by rw [List.getElem?_drop, show a + (j - a) = j by omega]; exact h7)⟩
theorem pcsI_step {s : List UInt8} {a : Nat} {acc : List (Int × Int × Int)} (hn : 0 ≤ ibF (s.drop a) 10) (hi : acc ++ (pcsFrom s a a).map toI = pcsI s) :
    (acc ++ [((a : Int), ((crN s a (a + (ibF (s.drop a) 10).toNat) : Nat) : Int), (((a + (ibF (s.drop a) 10).toNat + 1 : Nat)) : Int))]) ++ (pcsFrom s (a + (ibF (s.drop a) 10).toNat + 1) (a + (ibF (s.drop a) 10).toNat + 1)).map toI = pcsI s := by
  obtain ⟨h1, h2, h3⟩ := ib_at hn
  rw [← hi, pcs_skip (s := s) (a := a) _ a rfl (Nat.le_add_right _ _) (Nat.le_of_lt h1) h3, pcs_nl h2 rfl]
  simp [toI]
/-- What holds of every piece. -/
def pcOk (s : List UInt8) (p : Int × Int × Int) : Prop := 0 ≤ p.1 ∧ p.1 ≤ p.2.1 ∧ p.2.1 ≤ p.2.2 ∧ p.2.2 ≤ s.length
theorem pcs_okN (s : List UInt8) : ∀ (n a i : Nat), s.length - i = n → a ≤ i → i ≤ s.length → ∀ p ∈ pcsN s n a i, p.1 ≤ p.2.1 ∧ p.2.1 ≤ p.2.2 ∧ p.2.2 ≤ s.length
  | 0, a, i, h, h1, h2 => by
    intro p hp
    rw [pcsN] at hp
    obtain rfl := List.mem_singleton.1 hp
    exact ⟨by simp only; omega, Nat.le_refl _, Nat.le_refl _⟩
  | n + 1, a, i, h, h1, h2 => by
    intro p hp
    rw [pcsN] at hp
    split at hp
    · have := crN_le s a i
      rcases List.mem_cons.1 hp with rfl | hp
      · exact ⟨this.2 h1, by simp only; omega, by simp only; omega⟩
      · exact pcs_okN s n (i + 1) (i + 1) (by omega) (Nat.le_refl _) (by omega) p hp
    · exact pcs_okN s n a (i + 1) (by omega) (by omega) (by omega) p hp
theorem pcsI_ok {s : List UInt8} {i : Nat} {p : Int × Int × Int} (h : (pcsI s)[i]? = some p) : pcOk s p := by
  have hm := List.mem_of_getElem? h
  obtain ⟨q, hq, rfl⟩ := List.mem_map.1 hm
  have hk := mark_len s
  obtain ⟨h1, h2, h3⟩ := pcs_okN s _ _ _ rfl (Nat.le_refl _) hk q hq
  exact ⟨by simp only [toI]; omega, by simp only [toI]; omega, by simp only [toI]; omega, by simp only [toI]; omega⟩
theorem pcsN_len (s : List UInt8) : ∀ (n a i : Nat), 1 ≤ (pcsN s n a i).length ∧ (pcsN s n a i).length ≤ n + 1
  | 0, a, i => by simp [pcsN]
  | n + 1, a, i => by
    have h1 := pcsN_len s n (i + 1) (i + 1)
    have h2 := pcsN_len s n a (i + 1)
    rw [pcsN]
    split
    · rw [List.length_cons]; omega
    · omega
theorem pcsI_len (s : List UInt8) : 1 ≤ (pcsI s).length ∧ (pcsI s).length ≤ s.length + 1 := by
  unfold pcsI pcsFrom
  rw [List.length_map]
  have := pcsN_len s (s.length - markN s) (markN s) (markN s)
  omega
/-- What is told of the pieces. -/
def toldL (s : List UInt8) : Nat → List (Int × Int × Int) → List (Int × List UInt8)
  | _, [] => []
  | k, p :: l => if p.1 = p.2.2 then [] else (((k + 1 : Nat) : Int), (s.take p.2.1.toNat).drop p.1.toNat) :: toldL s (k + 1) l
def toldF (s : List UInt8) : List (Int × List UInt8) := toldL s 0 (pcsI s)
theorem told_stop {s : List UInt8} {i : Nat} {p : Int × Int × Int} {pre : List (Int × List UInt8)} (hp : (pcsI s)[i]? = some p) (h : p.1 = p.2.2) (hi : pre ++ toldL s i ((pcsI s).drop i) = toldF s) : pre = toldF s := by
  rw [drop_some hp, toldL, if_pos h, List.append_nil] at hi; exact hi
theorem told_end {s : List UInt8} {i : Nat} {pre : List (Int × List UInt8)} (h : (pcsI s).length ≤ i) (hi : pre ++ toldL s i ((pcsI s).drop i) = toldF s) : pre = toldF s := by
  rw [List.drop_eq_nil_of_le h, toldL, List.append_nil] at hi; exact hi
theorem told_step {s : List UInt8} {i : Nat} {p : Int × Int × Int} {pre : List (Int × List UInt8)} (hp : (pcsI s)[i]? = some p) (h : p.1 ≠ p.2.2) (hi : pre ++ toldL s i ((pcsI s).drop i) = toldF s) :
    (pre ++ [(((i + 1 : Nat) : Int), (s.take p.2.1.toNat).drop p.1.toNat)]) ++ toldL s (i + 1) ((pcsI s).drop (i + 1)) = toldF s := by
  rw [drop_some hp, toldL, if_neg h] at hi; rw [← hi]; simp
theorem toldL_len (s : List UInt8) : ∀ (l : List (Int × Int × Int)) (k : Nat), (toldL s k l).length ≤ l.length
  | [], _ => by simp [toldL]
  | p :: l, k => by
    rw [toldL]
    split
    · simp
    · simp [toldL_len s l (k + 1)]
theorem told_len (s : List UInt8) : (toldF s).length ≤ s.length + 1 := Nat.le_trans (toldL_len _ _ _) (pcsI_len s).2
theorem toldL_short (s : List UInt8) : ∀ (l : List (Int × Int × Int)) (k : Nat), ∀ x ∈ toldL s k l, x.2.length ≤ s.length ∧ (k : Int) < x.1 ∧ x.1 ≤ k + l.length
  | [], _ => by simp [toldL]
  | p :: l, k => by
    intro x hx
    rw [toldL] at hx
    split at hx
    · simp at hx
    · rcases List.mem_cons.1 hx with rfl | hx
      · simp only [List.length_drop, List.length_take, List.length_cons]; omega
      · have := toldL_short s l (k + 1) x hx
        simp only [List.length_cons]; omega
theorem told_short {s : List UInt8} {x : Int × List UInt8} (h : x ∈ toldF s) : x.2.length ≤ s.length ∧ 0 < x.1 ∧ x.1 ≤ s.length + 1 := by
  have h1 := toldL_short s _ _ x h
  have h2 := (pcsI_len s).2
  omega
theorem pre_of3 {α : Type} {pre l all : List α} {x : α} (h : (pre ++ [x]) ++ l = all) : pre ++ [x] <+: all := ⟨l, h⟩
theorem pcsZ_end {s : List UInt8} {a : Int} {acc : List (Int × Int × Int)} (h0 : 0 ≤ a) (ha : a ≤ s.length) (hn : ibF (s.drop a.toNat) 10 < 0) (hi : acc ++ (pcsFrom s a.toNat a.toNat).map toI = pcsI s) : acc ++ [(a, ((s.length : Nat) : Int), ((s.length : Nat) : Int))] = pcsI s := by
  obtain ⟨k, rfl⟩ := Int.eq_ofNat_of_zero_le h0
  exact pcsI_end (by omega) hn hi
theorem ib_range (s : List UInt8) (c : Int) : -1 ≤ ibF s c ∧ (0 ≤ ibF s c → ibF s c < s.length) := by
  refine ⟨Lib.indexByte_ge _ _, ?_⟩
  unfold ibF
  induction s with
  | nil => intro h; simp [Lib.indexByte] at h
  | cons b l ih =>
    rw [Lib.indexByte]
    split
    · intro _; simp
    · split
      · intro h; omega
      · rename_i h2; intro h
        have h3 : Lib.indexByte l c.toNat.toUInt8 ≠ -1 := by simpa using h2
        have h4 := Lib.indexByte_ge l c.toNat.toUInt8
        have := ih (by omega)
        rw [List.length_cons]; omega
theorem pcsZ_step {s : List UInt8} {a n to : Int} {acc : List (Int × Int × Int)} (h0 : 0 ≤ a) (hn : n = ibF (s.drop a.toNat) 10) (hn0 : 0 ≤ n)
    (ht : (to = a + n - 1 ∧ 0 < n ∧ ∃ c : UInt8, s[(a + n - 1).toNat]? = some c ∧ c.toNat = 13) ∨ (to = a + n ∧ (n ≤ 0 ∨ ∃ c : UInt8, s[(a + n - 1).toNat]? = some c ∧ c.toNat ≠ 13)))
    (hi : acc ++ (pcsFrom s a.toNat a.toNat).map toI = pcsI s) : (acc ++ [(a, to, a + n + 1)]) ++ (pcsFrom s (a + n + 1).toNat (a + n + 1).toNat).map toI = pcsI s := by
  obtain ⟨k, rfl⟩ := Int.eq_ofNat_of_zero_le h0
  subst hn
  have h := pcsI_step (a := k) hn0 hi
  obtain ⟨j, hj⟩ := Int.eq_ofNat_of_zero_le hn0
  simp only [Int.toNat_natCast] at hj ht ⊢
  rw [hj] at h ht ⊢
  simp only [Int.toNat_natCast] at h
  have e1 : ((k : Int) + (j : Int) + 1).toNat = k + j + 1 := by omega
  rw [e1]
  have e2 : to = ((crN s k (k + j) : Nat) : Int) := by
    unfold crN
    rcases ht with ⟨rfl, h1, c, hc, h13⟩ | ⟨rfl, h1⟩
    · rw [show ((k : Int) + (j : Int) - 1).toNat = k + j - 1 by omega] at hc
      rw [if_pos ⟨by omega, by rw [getD_some hc]; exact UInt8.toNat_inj.1 h13⟩]; omega
    · rw [if_neg]
      · omega
      · rintro ⟨h2, h3⟩
        rcases h1 with h1 | ⟨c, hc, h13⟩
        · omega
        · rw [show ((k : Int) + (j : Int) - 1).toNat = k + j - 1 by omega] at hc
          rw [getD_some hc] at h3
          exact h13 (by rw [h3]; rfl)
  rw [e2, show ((k : Int) + (j : Int) + 1) = (((k + j + 1 : Nat)) : Int) by omega]
  exact h
/-! ### reading -/
def linesF (l : List (Int × List UInt8)) : List LineD := l.map fun x => (scanF x.1 x.2).1
/-- The first line that is wrong: its number, and why. -/
def badL : List (Int × List UInt8) → Int × Int
  | [] => (0, 0)
  | x :: l => if (scanF x.1 x.2).2 ≠ 0 then (x.1, (scanF x.1 x.2).2) else badL l
theorem bad_app {l : List (Int × List UInt8)} : ∀ {pre : List (Int × List UInt8)}, (badL pre).2 = 0 → badL (pre ++ l) = badL l
  | [], _ => rfl
  | x :: pre, h => by
    rw [badL] at h
    rw [List.cons_append, badL]
    by_cases hx : (scanF x.1 x.2).2 ≠ 0
    · rw [if_pos hx] at h; exact absurd h hx
    · rw [if_neg hx] at h ⊢; exact bad_app h
theorem bad_app2 {l : List (Int × List UInt8)} : ∀ {pre : List (Int × List UInt8)}, (badL pre).2 ≠ 0 → badL (pre ++ l) = badL pre
  | [], h => absurd rfl h
  | x :: pre, h => by
    rw [badL] at h
    rw [List.cons_append, badL, badL]
    by_cases hx : (scanF x.1 x.2).2 ≠ 0
    · rw [if_pos hx, if_pos hx]
    · rw [if_neg hx] at h; rw [if_neg hx, if_neg hx]; exact bad_app2 h
theorem bad_one (x : Int × List UInt8) : badL [x] = if (scanF x.1 x.2).2 ≠ 0 then (x.1, (scanF x.1 x.2).2) else (0, 0) := rfl
theorem bad_snoc {pre : List (Int × List UInt8)} {x : Int × List UInt8} (h : (badL pre).2 = 0) (hx : (scanF x.1 x.2).2 ≠ 0) : badL (pre ++ [x]) = (x.1, (scanF x.1 x.2).2) := by
  rw [bad_app h, bad_one, if_pos hx]
theorem bad_snoc_ok {pre : List (Int × List UInt8)} {x : Int × List UInt8} (h : (badL pre).2 = 0) (hx : (scanF x.1 x.2).2 = 0) : (badL (pre ++ [x])).2 = 0 := by
  rw [bad_app h, bad_one, if_neg (by omega)]
theorem bad_pre {pre els : List (Int × List UInt8)} (h : pre <+: els) (hb : (badL pre).2 ≠ 0) : badL els = badL pre := by
  obtain ⟨l, rfl⟩ := h; exact bad_app2 hb
theorem bad_zero {pre els : List (Int × List UInt8)} (h : pre <+: els) (hb : (badL els).2 = 0) : (badL pre).2 = 0 := by
  by_cases hp : (badL pre).2 = 0
  · exact hp
  · rw [bad_pre h hp] at hb; exact hb
theorem bad_mem {pre els : List (Int × List UInt8)} {x : Int × List UInt8} (hb : (badL els).2 = 0) (h : pre ++ [x] <+: els) : (scanF x.1 x.2).2 = 0 := by
  have h1 := bad_zero h hb
  have h2 : (badL pre).2 = 0 := bad_zero ⟨[x], rfl⟩ h1
  rw [bad_app h2, bad_one] at h1
  split at h1
  · exact h1
  · omega
theorem pre_mem {α : Type} {pre els : List α} {x : α} (h : pre ++ [x] <+: els) : x ∈ els := by obtain ⟨l, rfl⟩ := h; simp
theorem lines_snoc {acc : List LineV} {pre : List (Int × List UInt8)} {x : Int × List UInt8} {y : LineV} (h : acc.map stripL = linesF pre) (hy : stripL y = (scanF x.1 x.2).1) : (acc ++ [y]).map stripL = linesF (pre ++ [x]) := by
  unfold linesF at h ⊢
  rw [List.map_append, List.map_append, h, List.map_cons, List.map_nil, hy]; rfl
end Go.FK
