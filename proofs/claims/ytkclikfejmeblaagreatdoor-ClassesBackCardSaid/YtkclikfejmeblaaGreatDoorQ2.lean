/- Joined by my program pack.py out of my own texts: PLpcs PLref PLlaw PLplc PLeach PLrds FKq FKv FKu FKo PHexM PHex PGE PFold PGF PWordM PLapart FKai PCls FKl FKi FKab FKak PCl2 POne PCl3 PCl4 PCl5 PCl6 PCl7 PCl8 PCl9 PClA Wllines. -/
import Derived.Lib.Join
import Derived.Scope
import Derived.Shelf.Strings.SlTrimAscii
import Derived.OrdersIn
import Derived.MapKept
import Derived.Carry
import Derived.RangeFuncBound
import Derived.Shelf.Strings.BuilderK
import Derived.Lib.OthersKept
import Derived.Lib.FrozenHead2
import Derived.Lib.Builder
import Derived.Lib.AppendStr
import Derived.KernelRfl
import Derived.Test.YtkclikfejmeblaaGreatDoorProg
import Derived.Tactics2
import Derived.Test.YtkclikfejmeblaaGreatDoorQ1
set_option linter.unusedVariables false
set_option linter.unusedSimpArgs false
/- === PLpcs === -/
section
/- Plain functions of chapter 3: the pieces of a text, and what is told of them. -/
set_option linter.unusedVariables false
namespace Go.FK
open Go Go.RowKit
def encPc (x : Int × Int × Int) : List Value := [.int .i64 x.1, .int .i64 x.2.1, .int .i64 x.2.2]
def markT : List UInt8 := [239, 187, 191]
def markN (s : List UInt8) : Nat := if hpB s markT = true then 3 else 0
theorem mark_len (s : List UInt8) : markN s ≤ s.length := by
  unfold markN
  split
  · exact hp_len (p := markT) (by assumption)
  · exact Nat.zero_le _
def crN (s : List UInt8) (a i : Nat) : Nat := if a < i ∧ s.getD (i - 1) 0 = 13 then i - 1 else i
theorem crN_le (s : List UInt8) (a i : Nat) : crN s a i ≤ i ∧ (a ≤ i → a ≤ crN s a i) := by unfold crN; split <;> omega
def pcsN (s : List UInt8) : Nat → Nat → Nat → List (Nat × Nat × Nat)
  | 0, a, _ => [(a, s.length, s.length)]
  | n + 1, a, i => if s.getD i 0 = 10 then (a, crN s a i, i + 1) :: pcsN s n (i + 1) (i + 1) else pcsN s n a (i + 1)
def pcsFrom (s : List UInt8) (a i : Nat) : List (Nat × Nat × Nat) := pcsN s (s.length - i) a i
theorem pcs_end {s : List UInt8} {a i : Nat} (h : s.length ≤ i) : pcsFrom s a i = [(a, s.length, s.length)] := by
  unfold pcsFrom; rw [show s.length - i = 0 by omega]; rfl
theorem getD_some {s : List UInt8} {i : Nat} {c : UInt8} (h : s[i]? = some c) : s.getD i 0 = c := by simp [List.getD, h]
theorem pcs_nl {s : List UInt8} {a i : Nat} {c : UInt8} (hc : s[i]? = some c) (h : c.toNat = 10) : pcsFrom s a i = (a, crN s a i, i + 1) :: pcsFrom s (i + 1) (i + 1) := by
  have hlt : i < s.length := (List.getElem?_eq_some_iff.1 hc).1
  have e : c = 10 := UInt8.toNat_inj.1 h
  unfold pcsFrom
  rw [show s.length - i = s.length - (i + 1) + 1 by omega, pcsN, getD_some hc, if_pos e]
theorem pcs_on {s : List UInt8} {a i : Nat} {c : UInt8} (hc : s[i]? = some c) (h : c.toNat ≠ 10) : pcsFrom s a i = pcsFrom s a (i + 1) := by
  have hlt : i < s.length := (List.getElem?_eq_some_iff.1 hc).1
  have e : c ≠ 10 := fun e => h (by rw [e]; rfl)
  unfold pcsFrom
  rw [show s.length - i = s.length - (i + 1) + 1 by omega, pcsN, getD_some hc, if_neg e]
theorem pcs_skip {s : List UInt8} {a k : Nat} : ∀ (n i : Nat), k - i = n → i ≤ k → k ≤ s.length → noB 10 s i k → pcsFrom s a i = pcsFrom s a k
  | 0, i, h, h1, _, _ => by obtain rfl : i = k := by omega
                            rfl
  | n + 1, i, h, h1, h2, h3 => by
    obtain ⟨c, hc⟩ := yT s i (by omega)
    rw [pcs_on hc (fun e => h3 i c (Nat.le_refl _) (by omega) hc (UInt8.toNat_inj.1 e))]
    exact pcs_skip n (i + 1) (by omega) (by omega) h2 (fun j c h4 h5 => h3 j c (by omega) h5)
def ibF (s : List UInt8) (c : Int) : Int := Lib.indexByte s c.toNat.toUInt8
theorem ib_spec (l : List UInt8) : (ibF l 10 = -1 ∧ ∀ (j : Nat) (c : UInt8), l[j]? = some c → c ≠ 10) ∨ ∃ k : Nat, ibF l 10 = k ∧ k < l.length ∧ l[k]? = some 10 ∧ ∀ (j : Nat) (c : UInt8), j < k → l[j]? = some c → c ≠ 10 := by
  show (Lib.indexByte l 10 = -1 ∧ _) ∨ ∃ k : Nat, Lib.indexByte l 10 = k ∧ _
  induction l with
  | nil => exact .inl ⟨rfl, fun j c h => by simp at h⟩
  | cons x l ih =>
    rw [Lib.indexByte]
    by_cases hx : x = 10
    · subst hx
      exact .inr ⟨0, by simp, by simp, by simp, fun j c h => by omega⟩
    · have hb : (x == 10) = false := by simpa using hx
      rw [hb]
      rcases ih with ⟨h1, h2⟩ | ⟨k, h1, h2, h3, h4⟩
      · rw [h1]
        refine .inl ⟨by simp, fun j c h => ?_⟩
        cases j with
        | zero => simp at h; subst h; exact hx
        | succ j => exact h2 j c (by simpa using h)
      · rw [h1]
        have hk : (((k : Nat) : Int) == -1) = false := by rw [beq_eq_false_iff_ne]; omega
        rw [hk]
        refine .inr ⟨k + 1, by simp, by simp; omega, by simpa using h3, fun j c hj h => ?_⟩
        cases j with
        | zero => simp at h; subst h; exact hx
        | succ j => exact h4 j c (by omega) (by simpa using h)
def toI (p : Nat × Nat × Nat) : Int × Int × Int := ((p.1 : Int), (p.2.1 : Int), (p.2.2 : Int))
def pcsI (s : List UInt8) : List (Int × Int × Int) := (pcsFrom s (markN s) (markN s)).map toI
theorem pcsI_end {s : List UInt8} {a : Nat} {acc : List (Int × Int × Int)} (ha : a ≤ s.length) (hn : ibF (s.drop a) 10 < 0) (hi : acc ++ (pcsFrom s a a).map toI = pcsI s) : acc ++ [((a : Int), (s.length : Int), (s.length : Int))] = pcsI s := by
  rcases ib_spec (s.drop a) with ⟨h1, h2⟩ | ⟨k, h1, h2, h3, h4⟩
  · rw [← hi, pcs_skip (s := s) (a := a) (k := s.length) _ a rfl ha (Nat.le_refl _) (fun j c h5 h6 h7 => h2 (j - a) c (by rw [List.getElem?_drop, show a + (j - a) = j by omega]; exact h7)), pcs_end (Nat.le_refl _)]
    rfl
  · omega
theorem ib_at {s : List UInt8} {a : Nat} (hn : 0 ≤ ibF (s.drop a) 10) : a + (ibF (s.drop a) 10).toNat < s.length ∧ s[a + (ibF (s.drop a) 10).toNat]? = some 10 ∧ noB 10 s a (a + (ibF (s.drop a) 10).toNat) := by
  rcases ib_spec (s.drop a) with ⟨h1, h2⟩ | ⟨k, h1, h2, h3, h4⟩
  · omega
  · rw [h1, Int.toNat_natCast]
    rw [List.length_drop] at h2
    rw [List.getElem?_drop] at h3
    refine ⟨by omega, h3, fun j c h5 h6 h7 => h4 (j - a) c (by omega) (by rw [List.getElem?_drop, show a + (j - a) = j by omega]; exact h7)⟩
theorem pcsI_step {s : List UInt8} {a : Nat} {acc : List (Int × Int × Int)} (hn : 0 ≤ ibF (s.drop a) 10) (hi : acc ++ (pcsFrom s a a).map toI = pcsI s) :
    (acc ++ [((a : Int), ((crN s a (a + (ibF (s.drop a) 10).toNat) : Nat) : Int), (((a + (ibF (s.drop a) 10).toNat + 1 : Nat)) : Int))]) ++ (pcsFrom s (a + (ibF (s.drop a) 10).toNat + 1) (a + (ibF (s.drop a) 10).toNat + 1)).map toI = pcsI s := by
  obtain ⟨h1, h2, h3⟩ := ib_at hn
  rw [← hi, pcs_skip (s := s) (a := a) _ a rfl (Nat.le_add_right _ _) (Nat.le_of_lt h1) h3, pcs_nl h2 rfl]
  simp [toI]
def pcOk (s : List UInt8) (p : Int × Int × Int) : Prop := 0 ≤ p.1 ∧ p.1 ≤ p.2.1 ∧ p.2.1 ≤ p.2.2 ∧ p.2.2 ≤ s.length
theorem pcs_okN (s : List UInt8) : ∀ (n a i : Nat), s.length - i = n → a ≤ i → i ≤ s.length → ∀ p ∈ pcsN s n a i, p.1 ≤ p.2.1 ∧ p.2.1 ≤ p.2.2 ∧ p.2.2 ≤ s.length
  | 0, a, i, h, h1, h2 => by
    intro p hp
    rw [pcsN] at hp
    obtain rfl := List.mem_singleton.1 hp
    exact ⟨by simp only; omega, Nat.le_refl _, Nat.le_refl _⟩
  | n + 1, a, i, h, h1, h2 => by
    intro p hp
    rw [pcsN] at hp
    split at hp
    · have := crN_le s a i
      rcases List.mem_cons.1 hp with rfl | hp
      · exact ⟨this.2 h1, by simp only; omega, by simp only; omega⟩
      · exact pcs_okN s n (i + 1) (i + 1) (by omega) (Nat.le_refl _) (by omega) p hp
    · exact pcs_okN s n a (i + 1) (by omega) (by omega) (by omega) p hp
theorem pcsI_ok {s : List UInt8} {i : Nat} {p : Int × Int × Int} (h : (pcsI s)[i]? = some p) : pcOk s p := by
  have hm := List.mem_of_getElem? h
  obtain ⟨q, hq, rfl⟩ := List.mem_map.1 hm
  have hk := mark_len s
  obtain ⟨h1, h2, h3⟩ := pcs_okN s _ _ _ rfl (Nat.le_refl _) hk q hq
  exact ⟨by simp only [toI]; omega, by simp only [toI]; omega, by simp only [toI]; omega, by simp only [toI]; omega⟩
theorem pcsN_len (s : List UInt8) : ∀ (n a i : Nat), 1 ≤ (pcsN s n a i).length ∧ (pcsN s n a i).length ≤ n + 1
  | 0, a, i => by simp [pcsN]
  | n + 1, a, i => by
    have h1 := pcsN_len s n (i + 1) (i + 1)
    have h2 := pcsN_len s n a (i + 1)
    rw [pcsN]
    split
    · rw [List.length_cons]; omega
    · omega
theorem pcsI_len (s : List UInt8) : 1 ≤ (pcsI s).length ∧ (pcsI s).length ≤ s.length + 1 := by
  unfold pcsI pcsFrom
  rw [List.length_map]
  have := pcsN_len s (s.length - markN s) (markN s) (markN s)
  omega
def toldL (s : List UInt8) : Nat → List (Int × Int × Int) → List (Int × List UInt8)
  | _, [] => []
  | k, p :: l => if p.1 = p.2.2 then [] else (((k + 1 : Nat) : Int), (s.take p.2.1.toNat).drop p.1.toNat) :: toldL s (k + 1) l
def toldF (s : List UInt8) : List (Int × List UInt8) := toldL s 0 (pcsI s)
theorem told_stop {s : List UInt8} {i : Nat} {p : Int × Int × Int} {pre : List (Int × List UInt8)} (hp : (pcsI s)[i]? = some p) (h : p.1 = p.2.2) (hi : pre ++ toldL s i ((pcsI s).drop i) = toldF s) : pre = toldF s := by
  rw [drop_some hp, toldL, if_pos h, List.append_nil] at hi; exact hi
theorem told_end {s : List UInt8} {i : Nat} {pre : List (Int × List UInt8)} (h : (pcsI s).length ≤ i) (hi : pre ++ toldL s i ((pcsI s).drop i) = toldF s) : pre = toldF s := by
  rw [List.drop_eq_nil_of_le h, toldL, List.append_nil] at hi; exact hi
theorem told_step {s : List UInt8} {i : Nat} {p : Int × Int × Int} {pre : List (Int × List UInt8)} (hp : (pcsI s)[i]? = some p) (h : p.1 ≠ p.2.2) (hi : pre ++ toldL s i ((pcsI s).drop i) = toldF s) :
    (pre ++ [(((i + 1 : Nat) : Int), (s.take p.2.1.toNat).drop p.1.toNat)]) ++ toldL s (i + 1) ((pcsI s).drop (i + 1)) = toldF s := by
  rw [drop_some hp, toldL, if_neg h] at hi; rw [← hi]; simp
theorem toldL_len (s : List UInt8) : ∀ (l : List (Int × Int × Int)) (k : Nat), (toldL s k l).length ≤ l.length
  | [], _ => by simp [toldL]
  | p :: l, k => by
    rw [toldL]
    split
    · simp
    · simp [toldL_len s l (k + 1)]
theorem told_len (s : List UInt8) : (toldF s).length ≤ s.length + 1 := Nat.le_trans (toldL_len _ _ _) (pcsI_len s).2
theorem toldL_short (s : List UInt8) : ∀ (l : List (Int × Int × Int)) (k : Nat), ∀ x ∈ toldL s k l, x.2.length ≤ s.length ∧ (k : Int) < x.1 ∧ x.1 ≤ k + l.length
  | [], _ => by simp [toldL]
  | p :: l, k => by
    intro x hx
    rw [toldL] at hx
    split at hx
    · simp at hx
    · rcases List.mem_cons.1 hx with rfl | hx
      · simp only [List.length_drop, List.length_take, List.length_cons]; omega
      · have := toldL_short s l (k + 1) x hx
        simp only [List.length_cons]; omega
theorem told_short {s : List UInt8} {x : Int × List UInt8} (h : x ∈ toldF s) : x.2.length ≤ s.length ∧ 0 < x.1 ∧ x.1 ≤ s.length + 1 := by
  have h1 := toldL_short s _ _ x h
  have h2 := (pcsI_len s).2
  omega
theorem pre_of3 {α : Type} {pre l all : List α} {x : α} (h : (pre ++ [x]) ++ l = all) : pre ++ [x] <+: all := ⟨l, h⟩
theorem pcsZ_end {s : List UInt8} {a : Int} {acc : List (Int × Int × Int)} (h0 : 0 ≤ a) (ha : a ≤ s.length) (hn : ibF (s.drop a.toNat) 10 < 0) (hi : acc ++ (pcsFrom s a.toNat a.toNat).map toI = pcsI s) : acc ++ [(a, ((s.length : Nat) : Int), ((s.length : Nat) : Int))] = pcsI s := by
  obtain ⟨k, rfl⟩ := Int.eq_ofNat_of_zero_le h0
  exact pcsI_end (by omega) hn hi
theorem ib_range (s : List UInt8) (c : Int) : -1 ≤ ibF s c ∧ (0 ≤ ibF s c → ibF s c < s.length) := by
  refine ⟨Lib.indexByte_ge _ _, ?_⟩
  unfold ibF
  induction s with
  | nil => intro h; simp [Lib.indexByte] at h
  | cons b l ih =>
    rw [Lib.indexByte]
    split
    · intro _; simp
    · split
      · intro h; omega
      · rename_i h2; intro h
        have h3 : Lib.indexByte l c.toNat.toUInt8 ≠ -1 := by simpa using h2
        have h4 := Lib.indexByte_ge l c.toNat.toUInt8
        have := ih (by omega)
        rw [List.length_cons]; omega
theorem pcsZ_step {s : List UInt8} {a n to : Int} {acc : List (Int × Int × Int)} (h0 : 0 ≤ a) (hn : n = ibF (s.drop a.toNat) 10) (hn0 : 0 ≤ n)
    (ht : (to = a + n - 1 ∧ 0 < n ∧ ∃ c : UInt8, s[(a + n - 1).toNat]? = some c ∧ c.toNat = 13) ∨ (to = a + n ∧ (n ≤ 0 ∨ ∃ c : UInt8, s[(a + n - 1).toNat]? = some c ∧ c.toNat ≠ 13)))
    (hi : acc ++ (pcsFrom s a.toNat a.toNat).map toI = pcsI s) : (acc ++ [(a, to, a + n + 1)]) ++ (pcsFrom s (a + n + 1).toNat (a + n + 1).toNat).map toI = pcsI s := by
  obtain ⟨k, rfl⟩ := Int.eq_ofNat_of_zero_le h0
  subst hn
  have h := pcsI_step (a := k) hn0 hi
  obtain ⟨j, hj⟩ := Int.eq_ofNat_of_zero_le hn0
  simp only [Int.toNat_natCast] at hj ht ⊢
  rw [hj] at h ht ⊢
  simp only [Int.toNat_natCast] at h
  have e1 : ((k : Int) + (j : Int) + 1).toNat = k + j + 1 := by omega
  rw [e1]
  have e2 : to = ((crN s k (k + j) : Nat) : Int) := by
    unfold crN
    rcases ht with ⟨rfl, h1, c, hc, h13⟩ | ⟨rfl, h1⟩
    · rw [show ((k : Int) + (j : Int) - 1).toNat = k + j - 1 by omega] at hc
      rw [if_pos ⟨by omega, by rw [getD_some hc]; exact UInt8.toNat_inj.1 h13⟩]; omega
    · rw [if_neg]
      · omega
      · rintro ⟨h2, h3⟩
        rcases h1 with h1 | ⟨c, hc, h13⟩
        · omega
        · rw [show ((k : Int) + (j : Int) - 1).toNat = k + j - 1 by omega] at hc
          rw [getD_some hc] at h3
          exact h13 (by rw [h3]; rfl)
  rw [e2, show ((k : Int) + (j : Int) + 1) = (((k + j + 1 : Nat)) : Int) by omega]
  exact h
def linesF (l : List (Int × List UInt8)) : List LineD := l.map fun x => (scanF x.1 x.2).1
def badL : List (Int × List UInt8) → Int × Int
  | [] => (0, 0)
  | x :: l => if (scanF x.1 x.2).2 ≠ 0 then (x.1, (scanF x.1 x.2).2) else badL l
theorem bad_app {l : List (Int × List UInt8)} : ∀ {pre : List (Int × List UInt8)}, (badL pre).2 = 0 → badL (pre ++ l) = badL l
  | [], _ => rfl
  | x :: pre, h => by
    rw [badL] at h
    rw [List.cons_append, badL]
    by_cases hx : (scanF x.1 x.2).2 ≠ 0
    · rw [if_pos hx] at h; exact absurd h hx
    · rw [if_neg hx] at h ⊢; exact bad_app h
theorem bad_app2 {l : List (Int × List UInt8)} : ∀ {pre : List (Int × List UInt8)}, (badL pre).2 ≠ 0 → badL (pre ++ l) = badL pre
  | [], h => absurd rfl h
  | x :: pre, h => by
    rw [badL] at h
    rw [List.cons_append, badL, badL]
    by_cases hx : (scanF x.1 x.2).2 ≠ 0
    · rw [if_pos hx, if_pos hx]
    · rw [if_neg hx] at h; rw [if_neg hx, if_neg hx]; exact bad_app2 h
theorem bad_one (x : Int × List UInt8) : badL [x] = if (scanF x.1 x.2).2 ≠ 0 then (x.1, (scanF x.1 x.2).2) else (0, 0) := rfl
theorem bad_snoc {pre : List (Int × List UInt8)} {x : Int × List UInt8} (h : (badL pre).2 = 0) (hx : (scanF x.1 x.2).2 ≠ 0) : badL (pre ++ [x]) = (x.1, (scanF x.1 x.2).2) := by
  rw [bad_app h, bad_one, if_pos hx]
theorem bad_snoc_ok {pre : List (Int × List UInt8)} {x : Int × List UInt8} (h : (badL pre).2 = 0) (hx : (scanF x.1 x.2).2 = 0) : (badL (pre ++ [x])).2 = 0 := by
  rw [bad_app h, bad_one, if_neg (by omega)]
theorem bad_pre {pre els : List (Int × List UInt8)} (h : pre <+: els) (hb : (badL pre).2 ≠ 0) : badL els = badL pre := by
  obtain ⟨l, rfl⟩ := h; exact bad_app2 hb
theorem bad_zero {pre els : List (Int × List UInt8)} (h : pre <+: els) (hb : (badL els).2 = 0) : (badL pre).2 = 0 := by
  by_cases hp : (badL pre).2 = 0
  · exact hp
  · rw [bad_pre h hp] at hb; exact hb
theorem bad_mem {pre els : List (Int × List UInt8)} {x : Int × List UInt8} (hb : (badL els).2 = 0) (h : pre ++ [x] <+: els) : (scanF x.1 x.2).2 = 0 := by
  have h1 := bad_zero h hb
  have h2 : (badL pre).2 = 0 := bad_zero ⟨[x], rfl⟩ h1
  rw [bad_app h2, bad_one] at h1
  split at h1
  · exact h1
  · omega
theorem pre_mem {α : Type} {pre els : List α} {x : α} (h : pre ++ [x] <+: els) : x ∈ els := by obtain ⟨l, rfl⟩ := h; simp
theorem lines_snoc {acc : List LineV} {pre : List (Int × List UInt8)} {x : Int × List UInt8} {y : LineV} (h : acc.map stripL = linesF pre) (hy : stripL y = (scanF x.1 x.2).1) : (acc ++ [y]).map stripL = linesF (pre ++ [x]) := by
  unfold linesF at h ⊢
  rw [List.map_append, List.map_append, h, List.map_cons, List.map_nil, hy]; rfl
end Go.FK
end

/- === PLref === -/
section
/- Plain laws of chapter 3's reference: its characters, its pieces, its cuts. -/
set_option linter.unusedVariables false
namespace Go.FK
open Go Go.RowKit
def encChar (x : Nat × Nat × Int × Bool) : List Value := [.int .i64 (x.1 : Nat), .int .i64 (x.2.1 : Nat), .int .i32 x.2.2.1, .bool x.2.2.2]
def rawC (x : Nat × Nat × Nat) : Nat × Nat × Int × Bool := (x.1, 0, (x.2.2 : Int), false)
def fulC (x : Nat × Nat × Nat) : Nat × Nat × Int × Bool := (x.1, x.2.1, (x.2.2 : Int), !wrongC x)
def chF (s : List UInt8) : List (Nat × Nat × Int × Bool) := (charsFrom s 0).map fulC
def encPcN (x : Nat × Nat × Nat) : List Value := [.int .i64 (x.1 : Nat), .int .i64 (x.2.1 : Nat), .int .i64 (x.2.2 : Nat)]
def keepP (p : Nat × Nat × Nat) : Bool := decide (p.1 < p.2.2)
def pcsR (s : List UInt8) : List (Nat × Nat × Nat) := (pcsFrom s (markN s) (markN s)).filter keepP
theorem pr_nl {s : List UInt8} {a i to : Nat} {c : UInt8} {acc : List (Nat × Nat × Nat)} (ha : a ≤ i) (hc : s[i]? = some c) (h : c.toNat = 10) (ht : to = crN s a i) (hi : acc ++ (pcsFrom s a i).filter keepP = pcsR s) :
    (acc ++ [(a, to, i + 1)]) ++ (pcsFrom s (i + 1) (i + 1)).filter keepP = pcsR s := by
  rw [← hi, pcs_nl hc h, List.filter_cons, if_pos (by simp [keepP]; omega), ht]; simp
theorem pr_on {s : List UInt8} {a i : Nat} {c : UInt8} {acc : List (Nat × Nat × Nat)} (hc : s[i]? = some c) (h : c.toNat ≠ 10) (hi : acc ++ (pcsFrom s a i).filter keepP = pcsR s) : acc ++ (pcsFrom s a (i + 1)).filter keepP = pcsR s := by
  rw [← hi, pcs_on hc h]
theorem hp_one_not {s : List UInt8} {c : UInt8} (hc : s[0]? = some c) (h : c.toNat ≠ 64) : hpB s [64] = false := by
  cases s with
  | nil => simp at hc
  | cons x l =>
    obtain rfl : x = c := by simpa using hc
    have : x ≠ 64 := fun e => h (by rw [e]; rfl)
    simp [hpB, List.isPrefixOf]; exact fun e => this e.symm
theorem headF_len (s : List UInt8) : (headF s).length ≤ s.length := Nat.le_trans (trm_len _) (cutl_len s [35]).1
theorem noteF_len (s : List UInt8) : (noteF s).length ≤ s.length := Nat.le_trans (trm_len _) (cutl_len s [35]).2
end Go.FK
end

/- === PLlaw === -/
section
/- Plain laws for chapter 3's statements. -/
set_option linter.unusedVariables false
namespace Go.FK
open Go Go.RowKit
theorem splF_len (b : UInt8) : ∀ l : List UInt8, (splF b l).length ≤ l.length + 1
  | [] => by simp [splF]
  | c :: l => by
    have ih := splF_len b l
    rw [splF]
    split
    · simp; omega
    · split <;> simp_all <;> omega
theorem fields_len (s : List UInt8) : (fieldsF s).length ≤ s.length + 1 := by
  unfold fieldsF
  split
  · simp
  · rw [List.length_map]; exact splF_len 59 s
theorem fields_lenC (s : List UInt8) : (cutF s).1.length ≤ s.length + 1 := by
  have h1 := fields_len (Lib.cut s [35]).1
  have h2 := (cutl_len s [35]).1
  show (fieldsF (Lib.cut s [35]).1).length ≤ _
  omega
theorem scan_flen (no : Int) (s : List UInt8) : (scanF no s).1.2.2.2.1.length ≤ s.length + 1 := by
  have h1 := fields_lenC s
  have h2 := fields_lenC ((noteF s).drop 9)
  have h3 := noteF_len s
  have h4 := fields_len (ordF s).2.1
  have h5 := (cutl_len ((headF s).drop 1) [58]).2
  have h6 := headF_len s
  rw [List.length_drop] at h2 h5
  have h5' : (ordF s).2.1.length ≤ (headF s).length - 1 := h5
  unfold scanF
  repeat' split
  all_goals simp only [zeroL, List.length_nil]
  all_goals omega
end Go.FK
end

/- === PLplc === -/
section
/- Plain laws of chapter 3: places, lines and columns. -/
set_option linter.unusedVariables false
namespace Go.FK
open Go Go.RowKit
section ops
variable {r : Option Nat} {P : Program} {n : Nat} {Q : Post} {s : Fm} {w : World} {ops : Array Oper} {rest : List Oper}
variable {d : Option Tmp} {ty : TypeId} {pos : String} {af : Array Edge}
end ops
def endsF (s : List UInt8) : List (Nat × Nat × Nat) := pcsFrom s (markN s) (markN s)
theorem pcsI_ends (s : List UInt8) : pcsI s = (endsF s).map toI := rfl
theorem pcsR_ends (s : List UInt8) : pcsR s = (endsF s).filter keepP := rfl
theorem pcsN_shape (s : List UInt8) : ∀ (n a i : Nat), s.length - i = n → a ≤ i → i ≤ s.length → ∃ init b, pcsN s n a i = init ++ [(b, s.length, s.length)] ∧ (∀ p ∈ init, keepP p = true ∧ p.2.1 < p.2.2) ∧ (init = [] → b = a) ∧ (∀ p, init.getLast? = some p → p.2.2 = b) ∧ b ≤ s.length
  | 0, a, i, h, h1, h2 => ⟨[], a, rfl, by simp, fun _ => rfl, by simp, by omega⟩
  | n + 1, a, i, h, h1, h2 => by
    rw [pcsN]
    split
    · obtain ⟨init, b, e, k1, k2, k3, k4⟩ := pcsN_shape s n (i + 1) (i + 1) (by omega) (Nat.le_refl _) (by omega)
      have hc := crN_le s a i
      refine ⟨(a, crN s a i, i + 1) :: init, b, by rw [e]; rfl, ?_, by simp, ?_, k4⟩
      · intro p hp
        rcases List.mem_cons.1 hp with rfl | hp
        · exact ⟨by simp [keepP]; omega, by simp only; omega⟩
        · exact k1 p hp
      · intro p hp
        cases init with
        | nil => simp at hp; subst hp; exact (k2 rfl).symm
        | cons q l => rw [List.getLast?_cons_cons] at hp; exact k3 p hp
    · exact pcsN_shape s n a (i + 1) (by omega) (by omega) (by omega)
theorem ends_shape (s : List UInt8) : ∃ init b, endsF s = init ++ [(b, s.length, s.length)] ∧ (∀ p ∈ init, keepP p = true ∧ p.2.1 < p.2.2) ∧ (init = [] → b = markN s) ∧ (∀ p, init.getLast? = some p → p.2.2 = b) ∧ b ≤ s.length :=
  pcsN_shape s _ _ _ rfl (Nat.le_refl _) (mark_len s)
theorem filter_all {α : Type} {p : α → Bool} {l : List α} (h : ∀ x ∈ l, p x = true) : l.filter p = l := List.filter_eq_self.2 h
theorem ends_ok {s : List UInt8} {i : Nat} {p : Nat × Nat × Nat} (h : (endsF s)[i]? = some p) : p.1 ≤ p.2.1 ∧ p.2.1 ≤ p.2.2 ∧ p.2.2 ≤ s.length :=
  pcs_okN s _ _ _ rfl (Nat.le_refl _) (mark_len s) p (List.mem_of_getElem? h)
theorem pcsR_ok {s : List UInt8} {i : Nat} {p : Nat × Nat × Nat} (h : (pcsR s)[i]? = some p) : p.1 ≤ p.2.1 ∧ p.2.1 ≤ p.2.2 ∧ p.2.2 ≤ s.length := by
  have hm := List.mem_of_getElem? h
  rw [pcsR_ends] at hm
  obtain ⟨i, hi⟩ := List.mem_iff_getElem?.1 (List.mem_filter.1 hm).1
  exact ends_ok hi
def textOf (s : List UInt8) (p : Nat × Nat × Nat) : List UInt8 := (s.take p.2.1).drop p.1
def placeF (s : List UInt8) (line col : Int) : Int × Int :=
  if line < 1 ∨ ((endsF s).length : Int) < line ∨ col < 1 then (0, 2) else
  match (endsF s)[(line - 1).toNat]? with
  | none => (0, 2)
  | some p => match (charsFrom (textOf s p) 0)[(col - 1).toNat]? with
    | some c => (((p.1 + c.1 : Nat) : Int), 0)
    | none => if col = ((charsFrom (textOf s p) 0).length : Int) + 1 then ((p.2.1 : Int), 0) else (0, 2)
def fromAt (s : List UInt8) (i : Nat) : Nat := ((endsF s).getD i (0, 0, 0)).1
def lixF (s : List UInt8) (b : Int) : Nat → Nat
  | 0 => 0
  | i + 1 => if i = 0 ∨ (fromAt s i : Int) ≤ b then i else lixF s b i
def cntE (x : Int) (l : List (Nat × Nat × Nat)) : Nat := (l.filter fun c => decide (((c.1 + c.2.1 : Nat) : Int) ≤ x)).length
def cntA (x : Int) (l : List (Nat × Nat × Nat)) : Nat := (l.filter fun c => decide (0 < c.1 ∧ (c.1 : Int) ≤ x)).length
def whereF (s : List UInt8) (b : Int) : Int × Int :=
  if b < 0 ∨ (s.length : Int) < b then (0, 0) else
  (((lixF s b (endsF s).length + 1 : Nat) : Int), ((1 + cntE (b - fromAt s (lixF s b (endsF s).length)) (charsFrom (textOf s ((endsF s).getD (lixF s b (endsF s).length) (0, 0, 0))) 0) : Nat) : Int))
end Go.FK
end

/- === PLeach === -/
section
/- Plain laws of chapter 3: what is told of a text, by the pieces of the reference. -/
set_option linter.unusedVariables false
namespace Go.FK
open Go Go.RowKit
def encTold (x : Int × List UInt8) : List Value := [.int .i64 x.1, S x.2]
def allF (s : List UInt8) (few : Int) : List (Int × List UInt8) := if 1 ≤ few ∧ few < ((toldF s).length : Int) then (toldF s).take few.toNat else toldF s
def toldR (s : List UInt8) : Nat → List (Nat × Nat × Nat) → List (Int × List UInt8)
  | _, [] => []
  | k, p :: l => (((k + 1 : Nat) : Int), (s.take p.2.1).drop p.1) :: toldR s (k + 1) l
theorem toldL_app (s : List UInt8) : ∀ (l m : List (Nat × Nat × Nat)) (k : Nat), (∀ p ∈ l, keepP p = true) → toldL s k ((l ++ m).map toI) = toldR s k l ++ toldL s (k + l.length) (m.map toI)
  | [], m, k, _ => by simp [toldR]
  | p :: l, m, k, h => by
    have hp := h p List.mem_cons_self
    simp only [keepP, decide_eq_true_eq] at hp
    rw [List.cons_append, List.map_cons, toldL, if_neg (by simp only [toI]; omega), toldL_app s l m (k + 1) (fun q hq => h q (List.mem_cons_of_mem _ hq)), toldR]
    have e : k + 1 + l.length = k + (p :: l).length := by rw [List.length_cons]; omega
    rw [e]
    simp [toI]
theorem told_ref (s : List UInt8) : toldF s = toldR s 0 (pcsR s) := by
  obtain ⟨init, b, e, k1, k2, k3, k4⟩ := ends_shape s
  have hf : init.filter keepP = init := filter_all fun x hx => (k1 x hx).1
  have key : pcsR s = init ++ if keepP (b, s.length, s.length) = true then [(b, s.length, s.length)] else [] := by rw [pcsR_ends, e, List.filter_append, hf, List.filter_cons, List.filter_nil]
  unfold toldF
  rw [pcsI_ends, e, toldL_app s init _ 0 (fun p hp => (k1 p hp).1), key]
  by_cases hk : keepP (b, s.length, s.length) = true
  · rw [if_pos hk]
    have h1 := toldL_app s [(b, s.length, s.length)] [] (0 + init.length) (fun p hp => by obtain rfl := List.mem_singleton.1 hp; exact hk)
    have h2 := toldL_app s (init ++ [(b, s.length, s.length)]) [] 0 (fun p hp => by
      rcases List.mem_append.1 hp with hp | hp
      · exact (k1 p hp).1
      · obtain rfl := List.mem_singleton.1 hp; exact hk)
    have h3 := toldL_app s init [(b, s.length, s.length)] 0 (fun p hp => (k1 p hp).1)
    rw [List.append_nil] at h2
    rw [← h3, h2]; simp [toldL]
  · rw [if_neg hk, List.append_nil]
    simp only [keepP, decide_eq_true_eq] at hk
    have : b = s.length := by omega
    subst this
    simp [toI, toldL]
theorem toldR_len (s : List UInt8) : ∀ (l : List (Nat × Nat × Nat)) (k : Nat), (toldR s k l).length = l.length
  | [], k => rfl
  | p :: l, k => by rw [toldR, List.length_cons, toldR_len s l (k + 1), List.length_cons]
def okPc (s : List UInt8) (p : List (Nat × Nat × Nat)) : Prop := ∀ x ∈ p, x.1 ≤ x.2.1 ∧ x.2.1 ≤ s.length
end Go.FK
end

/- === PLrds === -/
section
/- Plain laws of chapter 3: the reference's lines, one by one; lists of lines held against each other. -/
set_option linter.unusedVariables false
namespace Go.FK
open Go Go.RowKit
theorem lines_len {l : List LineV} {k : List (Int × List UInt8)} (h : l.map stripL = linesF k) : l.length = k.length := by
  have := congrArg List.length h
  rw [List.length_map] at this
  unfold linesF at this
  rw [List.length_map] at this; exact this
open Classical in
noncomputable def eqLs (a b : List LineV) : Bool := decide (a.map stripL = b.map stripL)
theorem fs_len {s : List UInt8} {l : List LineV} (h : l.map stripL = linesF (toldF s)) (hs : s.length ≤ 1073741823) : ∀ x ∈ l, x.fs.length ≤ 1073741824 := by
  intro x hx
  have h1 : stripL x ∈ linesF (toldF s) := by rw [← h]; exact List.mem_map_of_mem hx
  unfold linesF at h1
  obtain ⟨y, hy, e⟩ := List.mem_map.1 h1
  have h2 := scan_flen y.1 y.2
  rw [e] at h2
  have h3 := told_short hy
  have h4 : (stripL x).2.2.2.1 = x.fs := rfl
  rw [h4] at h2
  omega
def NRd (w : World) (v : Value) (xs : List LineV) : Prop := Rd w encLine v xs ∧ ∀ x ∈ xs, Rd w encStr x.v x.fs
section
variable {F : Nat} {w w' : World} {B E k i : Nat} {enc : LineV → List Value} {v v' q : Value} {xs ys : List LineV}
theorem NRd.below (h : NRd w v xs) (hb : Below w.heap.size w w') : NRd w' v xs := ⟨h.1.below hb, fun x hx => (h.2 x hx).below hb⟩
theorem NRd.inner {x : LineV} (h : NRd w v xs) (hx : x ∈ xs) : Rd w encStr x.v x.fs := h.2 x hx
theorem NRd.nil (w : World) : NRd w (.slice none 0 0) [] := ⟨Rd.nil _ _, fun _ h => by cases h⟩
def ND (xs : List LineV) : Prop := ∀ (i j : Nat) (x y : LineV) (g : Nat), xs[i]? = some x → xs[j]? = some y → i ≠ j → x.v.ownBlock = some g → y.v.ownBlock ≠ some g
def SRow (F i : Nat) (w : World) (B E k : Nat) (enc : LineV → List Value) (v : Value) (xs : List LineV) : Prop := Row w B E k enc v xs ∧ (∀ (j : Nat) (x : LineV), i ≤ j → xs[j]? = some x → Row w B F 1 encStr x.v x.fs) ∧ ND xs
theorem SRow.of (h : NRow F w B E k enc v xs) (hd : ND xs) : SRow F 0 w B E k enc v xs := ⟨h.1, fun j x _ hx => h.2 x (List.mem_of_getElem? hx), hd⟩
theorem SRow.below (h : SRow F i w B E k enc v xs) (hb : Below w.heap.size w w') : SRow F i w' B E k enc v xs := ⟨h.1.below hb, fun j x hj hx => (h.2.1 j x hj hx).below hb, h.2.2⟩
theorem SRow.rd (h : SRow F i w B E k enc v xs) : Rd w enc v xs := h.1.rd
theorem SRow.shape (h : SRow F i w B E k enc v xs) : SliceOk v xs.length := Row.shape h.1
theorem SRow.inner_at {x : LineV} (h : SRow F i w B E k enc v xs) (hx : xs[i]? = some x) : Row w B F 1 encStr x.v x.fs := h.2.1 i x (Nat.le_refl _) hx
theorem SRow.spoilt {x : LineV} (h : SRow F i w B E k enc v xs) (hx : xs[i]? = some x) (hc : Ch (fun g => x.v.ownBlock = some g) w w') (hE : Nat.beq F E = false) : SRow F (i + 1) w' B E k enc v xs := by
  refine ⟨h.1.ch hc fun g e e2 => ?_, fun j y hj hy => (h.2.1 j y (by omega) hy).ch hc fun g e e2 => ?_, h.2.2⟩
  · rcases (h.inner_at hx).apart h.1 hE with h1 | h1
    · rw [e2] at h1; cases h1
    · exact h1 (by rw [e, e2])
  · exact h.2.2 i j x y g hx hy (by omega) e2 e
end
end Go.FK
end

/- === FKq === -/
section
/- FKq: arguments of plain data, opened: structs, slices of plain elements, lines. My own text. -/
set_option linter.unusedVariables false
namespace Go.FK
open Go Go.RowKit Go.ChangeShapes Go.WideShapes
def CapOk (v : Value) : Prop := ∀ a n c, v = .slice a n c → n ≤ c
structure Flat (P : Program) (t : TypeId) (k : Nat) {α : Type} (enc : α → List Value) (dat : (H : Type) → α → DataW H) (good : α → Prop) : Prop where
  len : ∀ a, (enc a).length = k
  size : P.cellsOf t = k
  dec : ∀ {H : Type} {en : TypeId × Value → H} {w : World} {base : Nat} {spare : Nat → Bool} {held : Bool} {n : Nat} {cs : List Value} {x : DataW H × List MemPlace}, DataW.trod en P w base spare held n t cs = some x → ∃ a, cs = enc a ∧ x = (dat H a, []) ∧ good a
section
variable {P : Program} {t : TypeId}
variable {H : Type} {en : TypeId × Value → H} {w : World} {base n : Nat} {spare : Nat → Bool} {held : Bool} {cs : List Value} {x : DataW H × List MemPlace}
end
end Go.FK
end

/- === FKv === -/
section
/- FKv: scopes with jumps, characters as texts, contracts of the library's calls on lines. My own text. -/
namespace Go.FK
open Go Go.RowKit
def jmpQ (J : Nat → Fm → World → Prop) (Q : Post) : Post
  | .goto l, s, w => J l s w
  | e, s, w => Q e s w
section
variable {r : Option Nat} {P : Program} {n : Nat} {Q : Post} {s : Fm} {w : World}
theorem jmpQ_ret {J : Nat → Fm → World → Prop} (h : Q .ret s w) : jmpQ J Q .ret s w := h
theorem jmpQ_goto {J : Nat → Fm → World → Prop} {l : Nat} (h : J l s w) : jmpQ J Q (.goto l) s w := h
theorem stepR_scope' {b : Frame} {a : Act} {k : List Item} {cs : List Frame} {P : Program} {c : Code} {w : World} : step P (lone (b.atR a (.code (.scope c) :: k)) cs w) = .next (lone (b.atR a (.code c :: .inScope c :: k)) cs w) :=
  step_lone_go (by simp [stepG, stepG.exec, Frame.atR])
theorem stepR_inScope' {b : Frame} {a : Act} {k : List Item} {cs : List Frame} {P : Program} {c : Code} {w : World} : step P (lone (b.atR a (.inScope c :: k)) cs w) = .next (lone (b.atR a k) cs w) :=
  step_lone_go (by simp [stepG, stepG.exec, Frame.atR])
theorem W_scope {c : Code} (I : Nat → Nat → Fm → World → Prop) (first : W r P n c (jmpQ (fun l s w => ∃ m, I l m s w) Q) s w)
    (pass : ∀ l m s w, I l m s w → ∃ rest, findLabel c l = some rest ∧ W r P n rest (jmpQ (fun l' s' w' => ∃ m', m' < m ∧ I l' m' s' w') Q) s w) : W r P n (.scope c) Q s w := by
  rw [W_iff]
  intro b k cs hro hb hr
  have key : ∀ m l s w, I l m s w → ∃ rest, findLabel c l = some rest ∧ ∃ e a' w', upQ n Q e a' w' ∧ ArrivesIn (Machine.fenced P (Fw r)) P (lone (b.atR (s.act n) (.code rest :: .inScope c :: k)) cs w) b k cs e a' w' := by
    intro m
    induction m using Nat.strongRecOn with
    | _ m ih =>
      intro l s w hI
      obtain ⟨rest, hf, hW⟩ := pass l m s w hI
      refine ⟨rest, hf, ?_⟩
      obtain ⟨e, a₁, w₁, ⟨s₁, rfl, hq⟩, harr⟩ := (W_iff.1 hW) b (.inScope c :: k) cs hro hb hr
      cases e with
      | normal => exact ⟨.normal, _, w₁, ⟨s₁, rfl, hq⟩, StepsIn.trans harr (.one (fenced_calm hb hr rfl) stepR_inScope')⟩
      | goto l' =>
        obtain ⟨m', hlt, hI'⟩ := hq
        obtain ⟨rest', hf', e₂, a₂, w₂, hq₂, harr₂⟩ := ih m' hlt l' s₁ w₁ hI'
        have hg : gotoIn l' (.inScope c :: k) = some (.code rest' :: .inScope c :: k) := by simp [gotoIn, hf']
        exact ⟨e₂, a₂, w₂, hq₂, .of_steps (harr.1 _ hg) harr₂⟩
      | exit id =>
        have hx : exitTo id (.inScope c :: k) = exitTo id k := by simp [exitTo]
        exact ⟨_, _, w₁, ⟨s₁, rfl, hq⟩, fun k' hk => harr.1 k' (by rw [hx]; exact hk), fun hr' hk => harr.2 hr' (by rw [hx]; exact hk)⟩
      | ret => exact ⟨_, _, w₁, ⟨s₁, rfl, hq⟩, harr⟩
      | panic ch => exact ⟨_, _, w₁, ⟨s₁, rfl, hq⟩, harr⟩
      | outgrown => exact ⟨_, _, w₁, ⟨s₁, rfl, hq⟩, harr⟩
  obtain ⟨e, a₁, w₁, ⟨s₁, rfl, hq⟩, harr⟩ := (W_iff.1 first) b (.inScope c :: k) cs hro hb hr
  have h0 : (lone (b.atR (s.act n) (.code (.scope c) :: k)) cs w).fenced P (Fw r) := fenced_calm hb hr rfl
  cases e with
  | normal => exact ⟨.normal, _, w₁, ⟨s₁, rfl, hq⟩, .head h0 stepR_scope' (StepsIn.trans harr (.one (fenced_calm hb hr rfl) stepR_inScope'))⟩
  | goto l' =>
    obtain ⟨m', hI'⟩ := hq
    obtain ⟨rest', hf', e₂, a₂, w₂, hq₂, harr₂⟩ := key m' l' s₁ w₁ hI'
    have hg : gotoIn l' (.inScope c :: k) = some (.code rest' :: .inScope c :: k) := by simp [gotoIn, hf']
    exact ⟨e₂, a₂, w₂, hq₂, .of_steps (.head h0 stepR_scope' (harr.1 _ hg)) harr₂⟩
  | exit id =>
    have hx : exitTo id (.inScope c :: k) = exitTo id k := by simp [exitTo]
    exact ⟨_, _, w₁, ⟨s₁, rfl, hq⟩, fun k' hk => .head h0 stepR_scope' (harr.1 k' (by rw [hx]; exact hk)),
      fun hr' hk => let ⟨k₁, h1, h2⟩ := harr.2 hr' (by rw [hx]; exact hk); ⟨k₁, h1, .head h0 stepR_scope' h2⟩⟩
  | ret => exact ⟨_, _, w₁, ⟨s₁, rfl, hq⟩, .of_steps (.one h0 stepR_scope') harr⟩
  | panic ch => exact ⟨_, _, w₁, ⟨s₁, rfl, hq⟩, .of_steps (.one h0 stepR_scope') harr⟩
  | outgrown => exact ⟨_, _, w₁, ⟨s₁, rfl, hq⟩, .of_steps (.one h0 stepR_scope') harr⟩
end
section ops
variable {r : Option Nat} {P : Program} {n : Nat} {Q : Post} {s : Fm} {w : World} {ops : Array Oper} {rest : List Oper}
variable {d : Option Tmp} {ty : TypeId} {pos : String} {af : Array Edge}
theorem L_runeStr {a b : Nat} {X : Operand} (x : Int) (hx : s.ev n X = .int .i32 x) (ha : P.underlying a = some (.int .i32)) (hb : P.underlying b = some .string)
    (h : L r P n ops Q rest (s.put d (S (encL [x]))) w) : L r P n ops Q (⟨d, .convert a b X, ty, pos, af, none⟩ :: rest) s w := by
  refine xR _ w (by simp) ?_ h
  have hrun : (convert a b (.int .i32 x)).run P w = .ok (S (encL [x])) w := by
    simp [convert, run_underlying ha, run_underlying hb, encL, S, Conv.intToString]
  simp only [execOp, hx, Sem.run_bind, hrun, Result.andThen_ok, Sem.run_pure]
end ops
theorem hasPrefix_contract {P : Program} {f : FuncId} (h1 : ∀ (s p : ByteArray) (w : World), Calls P f #[.string s, .string p] w fun e w' => e = .returned (.bool (Lib.hasPrefix s.data.toList p.data.toList)) ∧ w' = w) (s p : List UInt8) (w : World) :
    Calls P f #[S s, S p] w (Ret fun v w' => v = .bool (p.isPrefixOf s) ∧ Below w.heap.size w w') := by
  refine (h1 ⟨s.toArray⟩ ⟨p.toArray⟩ w).mono ?_
  rintro e w' ⟨rfl, rfl⟩
  exact ⟨_, rfl, rfl, Below.refl _ _⟩
theorem index_byte (s : List UInt8) (c : UInt8) : Lib.indexByte s c = Lib.index s [c] := by
  induction s with
  | nil => rfl
  | cons b l ih =>
    rw [Lib.indexByte, Lib.index, ih]
    have : ([c].isPrefixOf (b :: l)) = (b == c) := by simp [List.isPrefixOf, Bool.beq_comm]
    rw [this]
theorem index1_contract {P : Program} {f : FuncId} (h1 : ∀ (s : ByteArray) (c : UInt8) (w : World), Calls P f #[.string s, .string ⟨#[c]⟩] w fun e w' => e = .returned (.int .i64 (Lib.indexByte s.data.toList c)) ∧ w' = w) (s sep : List UInt8) (w : World) (h : sep.length = 1) :
    Calls P f #[S s, S sep] w (Ret fun v w' => v = .int .i64 (Lib.index s sep) ∧ Below w.heap.size w w') := by
  obtain ⟨c, rfl⟩ := List.length_eq_one_iff.1 h
  refine (h1 ⟨s.toArray⟩ c w).mono ?_
  rintro e w' ⟨rfl, rfl⟩
  exact ⟨_, rfl, by rw [← index_byte], Below.refl _ _⟩
theorem trim_contract {P : Program} {f : FuncId}
    (h1 : ∀ (s cutset : ByteArray) (w : World), s.size ≤ 9223372036854775807 → cutset.size < 4294967281 → (∀ (j : Nat) (b : UInt8), cutset.data.toList[j]? = some b → b.toNat < 128) →
      Calls P f #[.string s, .string cutset] w fun e w' => e = .returned (.string ⟨(Lib.trimS s.data.toList cutset.data.toList).toArray⟩) ∧ Below w.heap.size w w')
    (s c : List UInt8) (w : World) (ha : c.all (fun b => decide (b.toNat < 128)) = true) (hs : s.length ≤ 1073741824) (hc : c.length ≤ 1073741824) :
    Calls P f #[S s, S c] w (Ret fun v w' => v = S (Lib.trimS s c) ∧ Below w.heap.size w w') := by
  refine (h1 ⟨s.toArray⟩ ⟨c.toArray⟩ w (by rw [size_mk]; omega) (by rw [size_mk]; omega) (Go.Proofs.ascii_of_all ha)).mono ?_
  rintro e w' ⟨rfl, h⟩
  exact ⟨_, rfl, rfl, h⟩
end Go.FK
end

/- === FKu === -/
section
/- FKu: regions that draw their order, in a round or not: what hangs on nothing is taken first, the rest in every order. My own text. -/
namespace Go.FK
open Go Go.RowKit
def noDefers (ops : Array Oper) : Bool := ops.toList.all fun o => notDefer o.op
theorem ops_fw {r : Option Nat} {P : Program} {ops : Array Oper} {Q : Exit → Act → World → Prop} (hd : noDefers ops = true) :
    ∀ (l : List Nat) (a : Act) (w : World), wpOpsIn (Fw none) 0 P ops Q l a w → wpOpsIn (Fw r) 0 P ops Q l a w
  | [], a, w, h => h
  | i :: rest, a, w, h => by
    rw [wpOpsIn_cons] at h ⊢
    unfold wpOpIn at h ⊢
    cases ho : ops[i]? with
    | none => simp only [ho] at h ⊢; exact ops_fw hd rest a w h
    | some o =>
      simp only [ho] at h ⊢
      have hne : ∀ c, o.op ≠ .defer c := notDefer_ne (List.all_eq_true.1 hd o (by
        have := Array.mem_of_getElem? ho
        simpa using this))
      split
      · rename_i hw
        rw [if_pos hw] at h
        have h := Oper.wpIn_mono (fun a w => ops_fw (r := r) hd rest a w) h
        unfold Oper.wpIn at h ⊢
        refine ⟨fun _ _ => trivial, ?_⟩
        have h2 := h.2
        rw [Oper.semAt_eq _ _ _ hne] at h2 ⊢
        exact h2
      · rename_i hw
        rw [if_neg hw] at h
        exact ⟨fun _ _ => trivial, ops_fw hd rest _ w h.2⟩
section
variable {P : Program} {n : Nat} {Q : Post} {s : Fm} {w : World} {ops : Array Oper} {fuel : Nat} {listed : Array Bool}
def Li (P : Program) (n : Nat) (ops : Array Oper) (Q : Post) (fuel : Nat) (listed : Array Bool) (s : Fm) (w : World) : Prop := wpAnyIn (Fw none) 0 P .any ops (upQ n Q) fuel listed (s.act n) w
theorem W_draws {r : Option Nat} {id : Nat} {l : List Oper} (N : Nat) (hN : Nat.beq l.length N = true) (hm : P.follows .mixedOrders = true) (hd : noDefers l.toArray = true)
    (h : ∀ w', Below w.heap.size w w' → Li P n l.toArray Q N (Array.replicate N false) s w') : W r P n (.region id l.toArray true) Q s w := by
  refine W_iff.2 (wpIn_region_draw fun t => ops_fw hd _ _ _ ?_)
  have hS := h { w with drawn := w.drawn + 1 } (Below.refl _ _).drew
  have e : l.length = N := Nat.eq_of_beq_eq_true hN
  subst e
  simp only [Region.schedule, hm, Bool.true_or, if_true]
  exact wpAnyIn_sound _ t _ _ _ (by simpa [Li] using hS)
def noCall : Op → Bool
  | .call _ => false
  | _ => true
theorem about_none {o : Oper} (h : noCall o.op = true) (w : World) (ρ : Operand → Value) : o.about P w ρ = none := by
  unfold Oper.about
  cases ho : o.op <;> first | rfl | (rw [ho] at h; cases h)
theorem yE (i : Nat) {o : Oper} (v : Value) (hi : ops[i]? = some o) (hs : Region.noSelect ops = true) (hf : Region.free .any ops listed i = true) (hr : (Region.ready .any ops listed).contains i = true)
    (hc : noCall o.op = true) (hq : NoPanic Q) (hw : wantB ops n s o.guard = true) (hrun : ∀ w', (execOp (s.ev n) o).run P w' = .ok (.value v) w') (h : Li P n ops Q fuel (listed.setIfInBounds i true) (s.put o.dst v) w) : Li P n ops Q (fuel + 1) listed s w := by
  unfold Li at h ⊢
  refine wpAnyIn_take (v := v) rfl hi hs hf hr ?_ ⟨.inl ⟨?_, ?_⟩, fun w => about_none hc w _⟩ ?_
  · intro c a w hp
    obtain ⟨s', _, hp⟩ := hp
    exact absurd hp (hq c s' w)
  · rw [wanted_want]; exact hw
  · intro w'; rw [act_eval]; exact hrun w'
  · rw [act_put]; exact h
theorem yQ (hr : Region.ready .any ops listed = []) (h : Q .normal s w) : Li P n ops Q fuel listed s w := wpAnyIn_done hr ⟨s, rfl, h⟩ fuel
def Iop (P : Program) (n : Nat) (ops : Array Oper) (Q : Post) (fuel : Nat) (listed : Array Bool) (i : Nat) (s : Fm) (w : World) : Prop :=
  wpOpIn (Fw none) 0 P ops (upQ n Q) i (wpAnyIn (Fw none) 0 P .any ops (upQ n Q) fuel (listed.setIfInBounds i true)) (s.act n) w
theorem yJ (i : Nat) (hr : Region.ready .any ops listed = [i]) (h : Iop P n ops Q fuel listed i s w) : Li P n ops Q (fuel + 1) listed s w :=
  wpAnyIn_all hr (by simp) fun j hj => by
    obtain rfl : j = i := by simpa using hj
    exact h
theorem I_all2 (i k : Nat) (hr : Region.ready .any ops listed = [i, k]) (h : Iop P n ops Q fuel listed i s w) (h2 : Iop P n ops Q fuel listed k s w) : Li P n ops Q (fuel + 1) listed s w :=
  wpAnyIn_all hr (by simp) fun j hj => by
    simp only [List.mem_cons, List.not_mem_nil, or_false] at hj
    rcases hj with rfl | rfl
    · exact h
    · exact h2
theorem yZ (i : Nat) {o : Oper} (hi : ops[i]? = some o)
    (h : L none P n ops (fun e s' w' => e = .normal ∧ Li P n ops Q fuel (listed.setIfInBounds i true) s' w') [o] s w) (hg : o.guard = none) : Iop P n ops Q fuel listed i s w := by
  unfold Iop wpOpIn
  rw [hi]
  rw [L_iff] at h
  unfold wpListIn at h
  have hwant : Region.wanted o (yielded ops (s.act n).tmps) = true := by rw [wanted_want, hg]; rfl
  rw [if_pos hwant] at h
  simp only [hwant, if_true]
  have key : ∀ {a w'}, wpListIn (Fw none) 0 P ops (upQ n fun e s' w' => e = .normal ∧ Li P n ops Q fuel (listed.setIfInBounds i true) s' w') [] a w' → wpAnyIn (Fw none) 0 P .any ops (upQ n Q) fuel (listed.setIfInBounds i true) a w' := by
    rintro a w' ⟨s', rfl, _, hL⟩
    exact hL
  have h := Oper.wpIn_mono (fun a w => key) h
  unfold Oper.wpIn at h ⊢
  refine ⟨h.1, ?_⟩
  have h2 := h.2
  generalize (o.semAt (Fw none).round (s.act n).eval).run P w = r at h2
  cases r with
  | ok x w' =>
    cases x <;> simp only [Oper.uponIn] at h2 ⊢ <;> first
      | exact h2
      | exact ⟨h2.1, CallsIn.mono h2.2 (fun e w'' he => by
          cases e with
          | returned v => exact he
          | panicked c => obtain ⟨s', _, he, _⟩ := he; cases he
          | outgrown => exfalso; obtain ⟨_, _, s', _, he, _⟩ := he; cases he)⟩
      | exact ⟨h2.1, RoundIn.mono h2.2 (fun e w'' he => by
          cases e with
          | returned v => exact he
          | panicked c => obtain ⟨s', _, he, _⟩ := he; cases he
          | outgrown => exfalso; obtain ⟨_, _, s', _, he, _⟩ := he; cases he)⟩
  | halt x w' =>
    cases x <;> first
      | (exfalso; simp only [Oper.uponIn] at h2; obtain ⟨s', _, he, _⟩ := h2; cases he)
      | exact h2
end
end Go.FK
namespace Go.FK
end Go.FK
namespace Go.FK
attribute [irreducible] Iop Li
end Go.FK
end

/- === FKo === -/
section
/- FKo: maps from whole numbers to whole numbers, made by the call itself, whose keys are laid once: made, looked up, laid. My own text. -/
set_option linter.unusedVariables false
namespace Go.FK
open Go Go.RowKit
def mEnt (k v : IntKind) : List (Int × Int) → Nat → List MapEntry
  | [], _ => []
  | p :: l, i => ⟨.int k p.1, .int v p.2, i⟩ :: mEnt k v l (i + 1)
def mapObj (k v : IntKind) (l : List (Int × Int)) : Obj := .map (mEnt k v l 0).toArray l.length
def midx : List (Int × Int) → Int → Option (Nat × Int)
  | [], _ => none
  | p :: l, x => if x = p.1 then some (0, p.2) else (midx l x).map fun q => (q.1 + 1, q.2)
def mget (l : List (Int × Int)) (x : Int) : Option Int := (midx l x).map (·.2)
section ops
variable {r : Option Nat} {P : Program} {n : Nat} {Q : Post} {s : Fm} {w : World} {ops : Array Oper} {rest : List Oper}
variable {d : Option Tmp} {ty : TypeId} {pos : String} {af : Array Edge}
end ops
end Go.FK
end

/- === PHexM === -/
section
/- Plain functions of chapter 4: code points in hexadecimal. -/
set_option linter.unusedVariables false
namespace Go.FK
open Go Go.RowKit
def hexTab : List UInt8 := [48, 49, 50, 51, 52, 53, 54, 55, 56, 57, 65, 66, 67, 68, 69, 70]
def digitV (c : Nat) : Int := if 48 ≤ c ∧ c ≤ 57 then (c : Int) - 48 else if 65 ≤ c ∧ c ≤ 70 then (c : Int) - 55 else -1
theorem digitV_range (c : Nat) : -1 ≤ digitV c ∧ digitV c ≤ 15 := by
  unfold digitV; repeat' split
  all_goals omega
set_option maxRecDepth 100000 in
theorem ibF_tab (c : UInt8) : ibF [48, 49, 50, 51, 52, 53, 54, 55, 56, 57, 65, 66, 67, 68, 69, 70] ((c.toNat : Nat) : Int) = digitV c.toNat := by
  have key : (List.range 256).all (fun n => Lib.indexByte hexTab (UInt8.ofNat n) == digitV n) = true := by kernel_rfl
  have h := List.all_eq_true.1 key c.toNat (List.mem_range.2 (by have := c.toNat_lt; omega))
  have h2 : Lib.indexByte hexTab (UInt8.ofNat c.toNat) = digitV c.toNat := by simpa using h
  unfold ibF
  rw [Int.toNat_natCast]
  exact h2
def hexV : List UInt8 → Nat → Option Nat
  | [], n => some n
  | c :: l, n => if digitV c.toNat < 0 then none else hexV l (16 * n + (digitV c.toNat).toNat)
def hexF (s : List UInt8) : Int × Int :=
  if (s.length < 4 ∨ 6 < s.length) ∨ (4 < s.length ∧ s.getD 0 0 = 48) then (0, 40) else
  match hexV s 0 with
  | none => (0, 40)
  | some n => if 1114111 < n then (0, 40) else ((n : Int), 0)
theorem hexF_len {s : List UInt8} (h : s.length < 4 ∨ 6 < s.length) : hexF s = (0, 40) := by unfold hexF; rw [if_pos (.inl h)]
theorem hexF_zero {s : List UInt8} {c : UInt8} (h : 4 < s.length) (hc : s[0]? = some c) (h0 : c.toNat = 48) : hexF s = (0, 40) := by
  have : c = 48 := UInt8.toNat_inj.1 h0
  unfold hexF; rw [if_pos (.inr ⟨h, by rw [List.getD_eq_getElem?_getD, hc, this]; rfl⟩)]
theorem hexF_bad {s : List UInt8} {i n : Nat} {c : UInt8} (hi : hexV (s.drop i) n = hexV s 0) (hc : s[i]? = some c) (hd : digitV c.toNat < 0) : hexF s = (0, 40) := by
  rw [drop_some hc, hexV, if_pos hd] at hi
  unfold hexF
  split
  · rfl
  · rw [← hi]
theorem hexV_step {s : List UInt8} {i n : Nat} {c : UInt8} (hi : hexV (s.drop i) n = hexV s 0) (hc : s[i]? = some c) (hd : 0 ≤ digitV c.toNat) : hexV (s.drop (i + 1)) (16 * n + (digitV c.toNat).toNat) = hexV s 0 := by
  rw [drop_some hc, hexV, if_neg (by omega)] at hi
  exact hi
theorem hexV_end {s : List UInt8} {i n : Nat} (hi : hexV (s.drop i) n = hexV s 0) (h : s.length ≤ i) : hexV s 0 = some n := by
  rw [List.drop_eq_nil_of_le h, hexV] at hi; exact hi.symm
theorem hexF_big {s : List UInt8} {n : Nat} (h : hexV s 0 = some n) (hn : 1114111 < n) : hexF s = (0, 40) := by
  unfold hexF
  split
  · rfl
  · rw [h]; simp only; rw [if_pos hn]
theorem hexF_ok {s : List UInt8} {n : Nat} (h : hexV s 0 = some n) (hn : n ≤ 1114111) (h1 : 4 ≤ s.length) (h2 : s.length ≤ 6) (h3 : s.length ≤ 4 ∨ ∃ c, s[0]? = some c ∧ c.toNat ≠ 48) : hexF s = ((n : Int), 0) := by
  unfold hexF
  rw [if_neg, h]
  · simp only; rw [if_neg (by omega)]
  · intro hx
    rcases hx with hx | ⟨hx, h0⟩
    · omega
    · rcases h3 with h3 | ⟨c, hc, hne⟩
      · omega
      · rw [List.getD_eq_getElem?_getD, hc] at h0
        apply hne
        have : c = 48 := h0
        rw [this]; rfl
theorem pow16 {i n : Nat} (h : n < 16 ^ i) (hi : i ≤ 5) : n < 1048576 := by
  have := Nat.pow_le_pow_right (n := 16) (by omega) hi
  omega
theorem pow16s {i n b : Nat} (h : n < 16 ^ i) (hb : b < 16) : 16 * n + b < 16 ^ (i + 1) := by
  rw [Nat.pow_succ]; omega
theorem pow166 {i n : Nat} (h : n < 16 ^ i) (hi : i ≤ 6) : n < 16777216 := by
  have := Nat.pow_le_pow_right (n := 16) (by omega) hi
  omega
def mayF (lo hi : Int) : Bool := decide (0 ≤ lo ∧ lo ≤ hi ∧ hi ≤ 1114111)
theorem mayF_true {lo hi : Int} (h1 : 0 ≤ lo) (h2 : lo ≤ hi) (h3 : hi ≤ 1114111) : mayF lo hi = true := decide_eq_true ⟨h1, h2, h3⟩
theorem mayF_false {lo hi : Int} (h : ¬ (0 ≤ lo ∧ lo ≤ hi ∧ hi ≤ 1114111)) : mayF lo hi = false := decide_eq_false h
end Go.FK
namespace Go.FK
open Go Go.RowKit
def digInv (b : Int) (i : Nat) : Prop := ∀ (j : Nat) (c : UInt8), j < i → ([48, 49, 50, 51, 52, 53, 54, 55, 56, 57, 65, 66, 67, 68, 69, 70] : List UInt8)[j]? = some c → (c.toNat : Int) ≠ b
def hexDig (n i : Nat) : UInt8 := hexTab.getD (n / 16 ^ i % 16) 0
def cntD (n : Nat) : Nat := if n < 65536 then 4 else if n < 1048576 then 5 else 6
def digsD (n l : Nat) : List UInt8 := ((List.range l).map (hexDig n)).reverse
def showF (r : Int) : List UInt8 × Int := if r < 0 ∨ 1114111 < r then ([], 40) else (digsD r.toNat (cntD r.toNat), 0)
theorem digsD_len (n l : Nat) : (digsD n l).length = l := by simp [digsD]
theorem cntD_le (n : Nat) : 4 ≤ cntD n ∧ cntD n ≤ 6 := by
  unfold cntD
  split
  · omega
  · split <;> omega
theorem cnt_lt {n l : Nat} (h : 0 < n / 16 ^ l) (hn : n ≤ 1114111) (hl : l ≤ cntD n) : l < cntD n := by
  rcases Nat.lt_or_ge l (cntD n) with h1 | h1
  · exact h1
  · exfalso
    obtain rfl : l = cntD n := by omega
    have : n / 16 ^ cntD n = 0 := by
      apply Nat.div_eq_of_lt
      unfold cntD
      split
      · simpa using by assumption
      · split
        · simpa using by assumption
        · simp; omega
    omega
theorem cnt_end {n l : Nat} (h : n / 16 ^ l = 0) (h4 : 4 ≤ l) (hl : l ≤ cntD n) : l = cntD n := by
  have hlt : n < 16 ^ l := by
    rcases Nat.lt_or_ge n (16 ^ l) with h1 | h1
    · exact h1
    · have := Nat.div_pos h1 (Nat.pow_pos (n := l) (show 0 < 16 by omega)); omega
  rcases Nat.lt_or_ge l (cntD n) with h1 | h1
  · exfalso
    unfold cntD at h1
    split at h1
    · omega
    · split at h1
      · obtain rfl : l = 4 := by omega
        simp at hlt; omega
      · have e : l = 4 ∨ l = 5 := by omega
        rcases e with rfl | rfl <;> (simp at hlt; omega)
  · omega
theorem digs_succ {n l : Nat} {c : UInt8} (hc : hexTab[n / 16 ^ l % 16]? = some c) : c :: digsD n l = digsD n (l + 1) := by
  unfold digsD
  rw [List.range_succ, List.map_append, List.reverse_append]
  have : hexDig n l = c := by unfold hexDig; rw [List.getD_eq_getElem?_getD, hc]; rfl
  simp [this]
end Go.FK
namespace Go.FK
def showSpanF (lo hi : Int) : List UInt8 × Int := if mayF lo hi = false then ([], 41) else if lo = hi then ((showF lo).1, 0) else ((showF lo).1 ++ [46, 46] ++ (showF hi).1, 0)
theorem showF_bad {r : Int} (h : r < 0 ∨ 1114111 < r) : showF r = ([], 40) := by unfold showF; rw [if_pos h]
theorem showF_ok {r : Int} (h1 : 0 ≤ r) (h2 : r ≤ 1114111) : showF r = (digsD r.toNat (cntD r.toNat), 0) := by unfold showF; rw [if_neg (by omega)]
theorem showF_len (r : Int) : (showF r).1.length ≤ 6 := by
  unfold showF
  split
  · simp
  · simp only; rw [digsD_len]; exact (cntD_le _).2
def dotsN (s : List UInt8) : Nat → Nat → Option Nat
  | 0, _ => none
  | f + 1, i => if i + 1 < s.length then (if s.getD i 0 = 46 ∧ s.getD (i + 1) 0 = 46 then some i else dotsN s f (i + 1)) else none
def dotsFrom (s : List UInt8) (i : Nat) : Option Nat := dotsN s (s.length - i) i
theorem dotsFrom_step {s : List UInt8} {i : Nat} (h : i + 1 < s.length) : dotsFrom s i = if s.getD i 0 = 46 ∧ s.getD (i + 1) 0 = 46 then some i else dotsFrom s (i + 1) := by
  unfold dotsFrom
  rw [show s.length - i = (s.length - (i + 1)) + 1 by omega, dotsN, if_pos h]
theorem dotsFrom_end {s : List UInt8} {i : Nat} (h : s.length ≤ i + 1) : dotsFrom s i = none := by
  unfold dotsFrom
  cases hn : s.length - i with
  | zero => rfl
  | succ m => rw [dotsN, if_neg (by omega)]
def spanF (s : List UInt8) : Int × Int × Int :=
  match dotsFrom s 0 with
  | none => if (hexF s).2 ≠ 0 then (0, 0, (hexF s).2) else ((hexF s).1, (hexF s).1, 0)
  | some a => if (hexF (s.take a)).2 ≠ 0 ∨ (hexF (s.drop (a + 2))).2 ≠ 0 then (0, 0, 40) else if (hexF (s.drop (a + 2))).1 < (hexF (s.take a)).1 then (0, 0, 41) else ((hexF (s.take a)).1, (hexF (s.drop (a + 2))).1, 0)
def atInv (s : List UInt8) (i : Nat) (at_ : Int) : Prop := (at_ = -1 ∧ dotsFrom s i = dotsFrom s 0) ∨ (0 ≤ at_ ∧ at_.toNat + 1 < s.length ∧ dotsFrom s 0 = some at_.toNat)
end Go.FK
namespace Go.FK
open Go Go.RowKit
theorem showSpan_bad {lo hi : Int} (h : mayF lo hi = false) : showSpanF lo hi = ([], 41) := by unfold showSpanF; rw [if_pos h]
theorem showSpan_one {lo hi : Int} (h : mayF lo hi = true) (e : lo = hi) : showSpanF lo hi = ((showF lo).1, 0) := by unfold showSpanF; rw [if_neg (by rw [h]; decide), if_pos e]
theorem showSpan_two {lo hi : Int} (h : mayF lo hi = true) (e : lo ≠ hi) : showSpanF lo hi = ((showF lo).1 ++ [46, 46] ++ (showF hi).1, 0) := by unfold showSpanF; rw [if_neg (by rw [h]; decide), if_neg e]
theorem span_none {s : List UInt8} (h : dotsFrom s 0 = none) : spanF s = if (hexF s).2 ≠ 0 then (0, 0, (hexF s).2) else ((hexF s).1, (hexF s).1, 0) := by unfold spanF; rw [h]
theorem span_some {s : List UInt8} {a : Nat} (h : dotsFrom s 0 = some a) : spanF s = if (hexF (s.take a)).2 ≠ 0 ∨ (hexF (s.drop (a + 2))).2 ≠ 0 then (0, 0, 40) else if (hexF (s.drop (a + 2))).1 < (hexF (s.take a)).1 then (0, 0, 41) else ((hexF (s.take a)).1, (hexF (s.drop (a + 2))).1, 0) := by unfold spanF; rw [h]
end Go.FK
namespace Go.FK
open Go Go.RowKit
def lowB (l : List UInt8) : List Int := l.reverse.map fun c => (c.toNat : Int)
theorem lowB_back (l : List UInt8) : bytesI (List.reverse (lowB l)) = l := by
  unfold lowB bytesI
  rw [← List.map_reverse, List.reverse_reverse, List.map_map]
  have : ((fun n : Int => UInt8.ofNat n.toNat) ∘ fun c : UInt8 => (c.toNat : Int)) = id := by
    funext c; simp
  rw [this, List.map_id]
theorem show_stepR {r : Nat} {acc : List Int} {z : Int} {c : UInt8} (i2 : z = ((r / 16 ^ acc.length : Nat) : Int)) (i3 : acc = lowB (digsD r acc.length)) (hc : ([48, 49, 50, 51, 52, 53, 54, 55, 56, 57, 65, 66, 67, 68, 69, 70] : List UInt8)[z.toNat % 16]? = some c) :
    z / 16 = ((r / 16 ^ (acc ++ [((c.toNat : Nat) : Int)]).length : Nat) : Int) ∧ acc ++ [((c.toNat : Nat) : Int)] = lowB (digsD r (acc ++ [((c.toNat : Nat) : Int)]).length) := by
  have hl : (acc ++ [((c.toNat : Nat) : Int)]).length = acc.length + 1 := by simp
  rw [hl]
  refine ⟨?_, ?_⟩
  · rw [Nat.pow_succ, ← Nat.div_div_eq_div_mul]
    generalize r / 16 ^ acc.length = q at *; omega
  · have h : hexTab[r / 16 ^ acc.length % 16]? = some c := by
      have e : r / 16 ^ acc.length % 16 = z.toNat % 16 := by generalize r / 16 ^ acc.length = q at *; omega
      rw [e]; exact hc
    rw [← digs_succ h]
    unfold lowB
    rw [List.reverse_cons, List.map_append]
    congr 1
theorem show_factsR {r : Nat} {acc : List Int} {z : Int} (i1 : acc.length ≤ cntD r) (i2 : z = ((r / 16 ^ acc.length : Nat) : Int)) (hr : r ≤ 1114111) : 0 ≤ z ∧ z ≤ 1114111 ∧ (0 < z → acc.length < cntD r) := by
  have hd := Nat.div_le_self r (16 ^ acc.length)
  refine ⟨?_, ?_, fun h => cnt_lt ?_ hr i1⟩ <;> (generalize r / 16 ^ acc.length = q at *; omega)
theorem show_endR {r : Nat} {acc : List Int} {z : Int} (i1 : acc.length ≤ cntD r) (i2 : z = ((r / 16 ^ acc.length : Nat) : Int)) (i3 : acc = lowB (digsD r acc.length)) (hz : z ≤ 0) (h4 : 4 ≤ acc.length) : bytesI (List.reverse acc) = digsD r (cntD r) := by
  have hq : r / 16 ^ acc.length = 0 := by generalize r / 16 ^ acc.length = q at i2 ⊢; omega
  have he := cnt_end (n := r) (l := acc.length) hq h4 i1
  rw [i3, lowB_back, he]
end Go.FK
namespace Go.FK
open Go Go.RowKit
theorem getD_drop {s : List UInt8} {i : Nat} {b : UInt8} {l : List UInt8} (h : s.drop i = b :: l) : s.getD i 0 = b ∧ s.drop (i + 1) = l ∧ i < s.length := by
  have hi : i < s.length := by
    rcases Nat.lt_or_ge i s.length with h1 | h1
    · exact h1
    · rw [List.drop_eq_nil_of_le h1] at h; cases h
  rw [List.drop_eq_getElem_cons hi] at h
  injection h with h1 h2
  refine ⟨?_, h2, hi⟩
  rw [List.getD_eq_getElem?_getD, List.getElem?_eq_getElem hi]; exact h1
theorem dots_index (s : List UInt8) : ∀ (n i : Nat), s.length - i ≤ n → (dotsFrom s i = none ∧ Lib.index (s.drop i) [46, 46] = -1) ∨ (∃ a : Nat, i ≤ a ∧ dotsFrom s i = some a ∧ Lib.index (s.drop i) [46, 46] = (a : Int) - i) := by
  intro n
  induction n with
  | zero =>
    intro i hn
    left
    rw [List.drop_eq_nil_of_le (by omega)]
    exact ⟨dotsFrom_end (by omega), by decide⟩
  | succ n ih =>
    intro i hn
    cases hd : s.drop i with
    | nil =>
      left
      have := congrArg List.length hd
      simp at this
      exact ⟨dotsFrom_end (by omega), by decide⟩
    | cons b l =>
      obtain ⟨e1, e2, hi⟩ := getD_drop hd
      have ih' := ih (i + 1) (by omega)
      rw [e2] at ih'
      unfold Lib.index
      cases l with
      | nil =>
        left
        have : s.length ≤ i + 1 := by have := congrArg List.length e2; simp at this; omega
        refine ⟨dotsFrom_end this, ?_⟩
        rw [if_neg (by simp [List.isPrefixOf])]
        rfl
      | cons c l' =>
        obtain ⟨f1, f2, hi2⟩ := getD_drop e2
        rw [dotsFrom_step hi2, e1, f1]
        by_cases hbc : b = 46 ∧ c = 46
        · right
          obtain ⟨rfl, rfl⟩ := hbc
          refine ⟨i, Nat.le_refl _, by rw [if_pos ⟨rfl, rfl⟩], ?_⟩
          rw [if_pos (by simp [List.isPrefixOf])]; omega
        · rw [if_neg hbc, if_neg (by
            intro hp
            simp [List.isPrefixOf] at hp
            exact hbc ⟨hp.1.symm, hp.2.symm⟩)]
          rcases ih' with ⟨h1, h2⟩ | ⟨a, h1, h2, h3⟩
          · left
            exact ⟨h1, by rw [h2]; rfl⟩
          · right
            refine ⟨a, by omega, h2, ?_⟩
            rw [h3, if_neg (by simp; omega)]; omega
theorem cut_dots (s : List UInt8) : (dotsFrom s 0 = none ∧ Lib.cut s [46, 46] = (s, [], false)) ∨ (∃ a : Nat, dotsFrom s 0 = some a ∧ Lib.cut s [46, 46] = (s.take a, s.drop (a + 2), true)) := by
  have h := dots_index s _ 0 (Nat.le_refl _)
  rw [List.drop_zero] at h
  rcases h with ⟨h1, h2⟩ | ⟨a, _, h1, h2⟩
  · left
    refine ⟨h1, ?_⟩
    unfold Lib.cut; rw [h2, if_neg (by omega)]
  · right
    refine ⟨a, h1, ?_⟩
    unfold Lib.cut; rw [h2, if_pos (by omega)]
    have : ((a : Int) - (0 : Nat)).toNat = a := by omega
    rw [this]; rfl
theorem hexF_err (s : List UInt8) : (hexF s).2 = 0 ∨ (hexF s).2 = 40 := by
  unfold hexF
  split
  · exact .inr rfl
  · split
    · exact .inr rfl
    · split
      · exact .inr rfl
      · exact .inl rfl
theorem cut_len (s sep : List UInt8) : (Lib.cut s sep).1.length ≤ s.length ∧ (Lib.cut s sep).2.1.length ≤ s.length := by
  unfold Lib.cut
  split
  · simp only [List.length_take, List.length_drop]; omega
  · simp
theorem nt {b : Bool} (h : (!b) = true) : b = false := by cases b <;> simp_all
theorem nf {b : Bool} (h : (!b) = false) : ¬ b = false := by cases b <;> simp_all
theorem span_cut (s : List UInt8) : spanF s = if (hexF (Lib.cut s [46, 46]).1).2 ≠ 0 then (0, 0, (hexF (Lib.cut s [46, 46]).1).2) else if (Lib.cut s [46, 46]).2.2 = false then ((hexF (Lib.cut s [46, 46]).1).1, (hexF (Lib.cut s [46, 46]).1).1, 0) else
    if (hexF (Lib.cut s [46, 46]).2.1).2 ≠ 0 then (0, 0, (hexF (Lib.cut s [46, 46]).2.1).2) else if (hexF (Lib.cut s [46, 46]).2.1).1 < (hexF (Lib.cut s [46, 46]).1).1 then (0, 0, 41) else ((hexF (Lib.cut s [46, 46]).1).1, (hexF (Lib.cut s [46, 46]).2.1).1, 0) := by
  rcases cut_dots s with ⟨h1, h2⟩ | ⟨a, h1, h2⟩
  · rw [span_none h1, h2]
    simp only
    split <;> simp
  · rw [span_some h1, h2]
    simp only
    have e1 := hexF_err (s.take a)
    have e2 := hexF_err (s.drop (a + 2))
    rcases e1 with e1 | e1 <;> rcases e2 with e2 | e2 <;> simp [e1, e2]
end Go.FK
end

/- === PHex === -/
section
/- A stand-in's name: chapter 4's texts lean on PHex; behind chapter 3's texts it is PHexM. -/
end

/- === PGE === -/
section
/- PGE: the kinds of values of chapter 4's maps, in memory. My own text. -/
namespace Go.FK
open Go Go.RowKit
abbrev SpS := SpG (List UInt8)
abbrev SpI := SpG Int
abbrev SpB := SpG Bool
def encSpanS (x : SpS) : List Value := [.int .i32 x.1, .int .i32 x.2.1, S x.2.2]
def encSpanI (x : SpI) : List Value := [.int .i32 x.1, .int .i32 x.2.1, .int .i64 x.2.2]
def encSpanB (x : SpB) : List Value := [.int .i32 x.1, .int .i32 x.2.1, .bool x.2.2]
def eqS (a b : List UInt8) : Bool := decide (a = b)
def eqI (a b : Int) : Bool := decide (a = b)
def eqB (a b : Bool) : Bool := decide (a = b)
theorem eqI_law (a b : Int) : eqI a b = true ↔ a = b := decide_eq_true_iff
theorem eqI_y {a b : Int} (h : a = b) : eqI a b = true := decide_eq_true h
theorem eqI_n {a b : Int} (h : a ≠ b) : eqI a b = false := decide_eq_false h
theorem tnf {b : Bool} (h : b = true) : ¬ b = false := by rw [h]; decide
theorem gep_same {α : Type} {s vs : List α} {i j : Nat} (h : i = j) (hp : vs.length = 0) : s = List.take i s ++ vs ++ List.drop j s := by
  subst h
  obtain rfl : vs = [] := List.eq_nil_of_length_eq_zero hp
  simp
theorem gep_end {α : Type} {s vs : List α} {i : Nat} (h : i = s.length) : s ++ vs = List.take i s ++ vs ++ List.drop i s := by subst h; simp
theorem gep_tail {α : Type} {s vs : List α} {i j : Nat} (h : j = s.length) : List.take i s ++ vs = List.take i s ++ vs ++ List.drop j s := by subst h; simp
end Go.FK
end

/- === PFold === -/
section
/- PFold: maps laid over one another, maps turned, how many code points have a value. My own text. -/
set_option linter.unusedVariables false
namespace Go.FK
section
variable {V W : Type} {eq : V → V → Bool}
def layAll (eq : V → V → Bool) (m xs : List (SpG V)) : List (SpG V) := xs.foldl (fun m s => layF eq m s.1 s.2.1 s.2.2) m
def turnAll (eq : W → W → Bool) (f : V → W) (xs : List (SpG V)) : List (SpG W) := xs.foldl (fun m s => layF eq m s.1 s.2.1 (f s.2.2)) []
theorem layAll_snoc (m xs : List (SpG V)) (s : SpG V) : layAll eq m (xs ++ [s]) = layF eq (layAll eq m xs) s.1 s.2.1 s.2.2 := by unfold layAll; rw [List.foldl_append]; rfl
structure MapOk (eq : V → V → Bool) (xs : List (SpG V)) : Prop where
  rise : RiseG 0 xs
  can : CanG eq none xs
theorem MapOk.nil : MapOk eq [] := ⟨trivial, trivial⟩
theorem MapOk.lay (hE : ∀ a b, eq a b = true ↔ a = b) {xs : List (SpG V)} (h : MapOk eq xs) (lo hi : Int) (v : V) : MapOk eq (layF eq xs lo hi v) := ⟨layF_rise h.rise, layF_can hE h.rise h.can⟩
theorem MapOk.put (hE : ∀ a b, eq a b = true ↔ a = b) {xs : List (SpG V)} (h : MapOk eq xs) (lo hi : Int) (v : V) : MapOk eq (putF eq xs lo hi v) := ⟨putF_rise h.rise, putF_can hE h.rise h.can⟩
theorem MapOk.cut {xs : List (SpG V)} (h : MapOk eq xs) (lo hi : Int) : MapOk eq (cutM xs lo hi) := ⟨cutF_rise h.rise, cutF_can h.rise h.can⟩
theorem layF_val (hE : ∀ a b, eq a b = true ↔ a = b) {xs : List (SpG V)} (h : RiseG 0 xs) {lo hi : Int} (hm : mayG lo hi = true) (v : V) (x : Int) : valG (layF eq xs lo hi v) x = if lo ≤ x ∧ x ≤ hi then some v else valG xs x := by
  unfold layF; rw [if_neg (by rw [hm]; decide)]; exact layG_val hE h hm x
theorem foldLay {eq : W → W → Bool} (hE : ∀ a b, eq a b = true ↔ a = b) (f : V → W) : ∀ (xs : List (SpG V)) (b : Int) (m : List (SpG W)), 0 ≤ b → RiseG b xs → MapOk eq m →
    MapOk eq (xs.foldl (fun m s => layF eq m s.1 s.2.1 (f s.2.2)) m) ∧ ∀ x, valG (xs.foldl (fun m s => layF eq m s.1 s.2.1 (f s.2.2)) m) x = ((valG xs x).map f).or (valG m x)
  | [], b, m, _, _, hm => ⟨hm, fun x => by simp [valG_nil]⟩
  | s :: l, b, m, hb, h, hm => by
    obtain ⟨h1, h2, h3, h4⟩ := h
    have hmay : mayG s.1 s.2.1 = true := decide_eq_true ⟨by omega, h2, h3⟩
    have ih := foldLay hE f l (s.2.1 + 1) (layF eq m s.1 s.2.1 (f s.2.2)) (by omega) h4 (hm.lay hE _ _ _)
    refine ⟨ih.1, fun x => ?_⟩
    rw [List.foldl_cons, ih.2 x, layF_val hE hm.rise hmay]
    by_cases hx : s.1 ≤ x ∧ x ≤ s.2.1
    · rw [if_pos hx, valG_yes hx, h4.low (by omega)]; rfl
    · rw [if_neg hx, valG_no (by omega)]
theorem layAll_ok (hE : ∀ a b, eq a b = true ↔ a = b) {xs m : List (SpG V)} (h : RiseG 0 xs) (hm : MapOk eq m) : MapOk eq (layAll eq m xs) ∧ ∀ x, valG (layAll eq m xs) x = (valG xs x).or (valG m x) := by
  have := foldLay hE id xs 0 m (Int.le_refl _) h hm
  refine ⟨this.1, fun x => ?_⟩
  have h2 := this.2 x
  rw [Option.map_id] at h2
  exact h2
theorem MapOk.one (hE : ∀ a b, eq a b = true ↔ a = b) {l m : List (SpG V)} (hl : MapOk eq l) (hm : MapOk eq m) (h : ∀ x, valG l x = valG m x) : l = m := one_form eq hE hl.rise hm.rise hl.can hm.can h
def overF (eq : V → V → Bool) (a b : List (SpG V)) : List (SpG V) := layAll eq (layAll eq [] a) b
def cntB (P : Int → Bool) (b : Int) : Nat → Int
  | 0 => 0
  | n + 1 => (if P b = true then 1 else 0) + cntB P (b + 1) n
theorem mem_val {xs : List (SpG V)} {b : Int} (h : RiseG b xs) {s : SpG V} (hs : s ∈ xs) {x : Int} (hx : s.1 ≤ x ∧ x ≤ s.2.1) : valG xs x = some s.2.2 := by
  obtain ⟨A, B, rfl⟩ := List.append_of_mem hs
  have h2 := rise_app.1 h
  rw [valG_app, valG_yes hx]
  have : valG A x = none := by
    unfold valG
    rw [List.find?_eq_none.2 (fun t ht => by rw [inS_no (by have := (h2.2.2 t ht).1; omega)]; decide)]; rfl
  rw [this]; rfl
end
end Go.FK
end

/- === PGF === -/
section
/- PGF: putting into a map, and what a copy and a comparison of lists hold. My own text. -/
set_option linter.unusedVariables false
namespace Go.FK
open Go Go.RowKit
section
variable {V : Type} {xs : List (SpG V)} {lo hi : Int} {v z : V} {eq : V → V → Bool}
theorem put_badG (h : mayG lo hi = false) : 41 = putE xs lo hi ∧ xs = putF eq xs lo hi v := by unfold putE putF; rw [if_pos h, if_pos h]; exact ⟨rfl, rfl⟩
theorem met_some (h : (metV z (metG xs lo hi)).2.2.2 = true) : (metG xs lo hi).isSome = true := by
  cases hm : metG xs lo hi with
  | none => rw [hm] at h; exact absurd h (by simp [metV])
  | some s => rfl
theorem met_noneV (h : (metV z (metG xs lo hi)).2.2.2 = false) : metG xs lo hi = none := by
  cases hm : metG xs lo hi with
  | none => rfl
  | some s => rw [hm] at h; exact absurd h (by simp [metV])
theorem put_metG (hm : mayG lo hi = true) (h : (metV z (metG xs lo hi)).2.2.2 = true) : 42 = putE xs lo hi ∧ xs = putF eq xs lo hi v := by
  unfold putE putF; rw [if_neg (tnf hm), if_neg (tnf hm), if_pos (met_some h), if_pos (met_some h)]; exact ⟨rfl, rfl⟩
theorem put_okG (hm : mayG lo hi = true) (h : (metV z (metG xs lo hi)).2.2.2 = false) : layE lo hi = putE xs lo hi ∧ layF eq xs lo hi v = putF eq xs lo hi v := by
  have h2 := met_noneV h
  unfold putE putF layE layF
  rw [h2, if_neg (tnf hm), if_neg (tnf hm), if_neg (tnf hm), if_neg (tnf hm)]; exact ⟨rfl, rfl⟩
end
section
variable {α : Type} {a b xs pre : List α} {i : Nat} {x y : α}
theorem tk_pre (h : xs[i]? = some x) : xs.take i ++ [x] <+: xs := by
  have : xs.take i ++ [x] = xs.take (i + 1) := by rw [List.take_add_one, h]; rfl
  rw [this]; exact List.take_prefix _ _
theorem tk_snoc (h : xs[i]? = some x) : xs.take i ++ [x] = xs.take (i + 1) := by rw [List.take_add_one, h]; rfl
theorem tk_same (h : a.take i = b.take i) (hx : a[i]? = some x) (hy : b[i]? = some y) (e : x = y) : a.take (i + 1) = b.take (i + 1) := by
  rw [List.take_add_one, List.take_add_one, hx, hy, h, e]
theorem tk_all (h : a.take i = b.take i) (hl : a.length = b.length) (hi : a.length ≤ i) : a = b := by
  rwa [List.take_of_length_le hi, List.take_of_length_le (by omega)] at h
theorem tk_one (h : pre ++ [x] <+: xs) : xs[pre.length]? = some x := by
  obtain ⟨t, rfl⟩ := h
  rw [List.append_assoc, List.getElem?_append_right (Nat.le_refl _), Nat.sub_self]; rfl
theorem tk_lt (h : pre ++ [x] <+: xs) : pre.length < xs.length := (List.getElem?_eq_some_iff.1 (tk_one h)).1
end
theorem sp_ext {V : Type} {x y : SpG V} (h1 : x.1 = y.1) (h2 : x.2.1 = y.2.1) (h3 : x.2.2 = y.2.2) : x = y := by
  obtain ⟨a, b, c⟩ := x
  obtain ⟨d, e, f⟩ := y
  simp only at h1 h2 h3
  rw [h1, h2, h3]
theorem RiseG.pre {V : Type} {xs pre : List (SpG V)} {x : SpG V} (hr : RiseG 0 xs) (h : pre ++ [x] <+: xs) : 0 ≤ x.1 ∧ x.1 ≤ x.2.1 ∧ x.2.1 ≤ 1114111 := hr.at (tk_one h)
end Go.FK
end

/- === PWordM === -/
section
/- PWords: the plain functions of chapter 05 (words): no program in sight. -/
namespace Go.FK
open Go
def blankB (r : Int) : Bool := r == 9 || r == 11 || r == 12 || r == 32 || r == 133 || r == 160 || r == 5760 || r == 8232 || r == 8233 || r == 8239 || r == 8287 || r == 12288 || (decide (8192 ≤ r) && decide (r ≤ 8202))
def runesN (s : List UInt8) : Nat → Nat → List Int
  | 0, _ => []
  | n + 1, pos => if pos < s.length then ((dec s pos).1 : Int) :: runesN s n (pos + (dec s pos).2) else []
theorem runesN_end {s : List UInt8} : ∀ {n pos : Nat}, s.length ≤ pos → runesN s n pos = []
  | 0, _, _ => rfl
  | n + 1, pos, h => by rw [runesN, if_neg (by omega)]
theorem runesN_fuel {s : List UInt8} : ∀ (n m pos : Nat), s.length - pos ≤ n → s.length - pos ≤ m → runesN s n pos = runesN s m pos := by
  intro n
  induction n with
  | zero => intro m pos h _; rw [runesN_end (by omega), runesN_end (by omega)]
  | succ n ih =>
    intro m pos hn hm
    by_cases h : pos < s.length
    · cases m with
      | zero => omega
      | succ m =>
        have := dec_pos s pos
        rw [runesN, runesN, if_pos h, if_pos h, ih m _ (by omega) (by omega)]
    · rw [runesN_end (by omega), runesN_end (by omega)]
def runesFrom (s : List UInt8) (pos : Nat) : List Int := runesN s (s.length - pos) pos
theorem runesFrom_step {s : List UInt8} {pos : Nat} (h : pos < s.length) : runesFrom s pos = ((dec s pos).1 : Int) :: runesFrom s (pos + (dec s pos).2) := by
  have := dec_pos s pos
  unfold runesFrom
  rw [runesN_fuel (s.length - pos) (s.length - pos + 1) pos (by omega) (by omega), runesN, if_pos h]
  rw [runesN_fuel (s.length - pos) (s.length - (pos + (dec s pos).2)) _ (by omega) (by omega)]
theorem runesFrom_end {s : List UInt8} {pos : Nat} (h : s.length ≤ pos) : runesFrom s pos = [] := runesN_end h
def wordsN (s : List UInt8) : Nat → Nat → Int → List (Int × List UInt8)
  | 0, _, fr => if 0 ≤ fr then [(fr, s.drop fr.toNat)] else []
  | n + 1, pos, fr =>
    if pos < s.length then
      if blankB (dec s pos).1 = true then
        if 0 ≤ fr then (fr, (s.take pos).drop fr.toNat) :: wordsN s n (pos + (dec s pos).2) (-1) else wordsN s n (pos + (dec s pos).2) fr
      else if fr < 0 then wordsN s n (pos + (dec s pos).2) pos else wordsN s n (pos + (dec s pos).2) fr
    else if 0 ≤ fr then [(fr, s.drop fr.toNat)] else []
def wordsFrom (s : List UInt8) (pos : Nat) (fr : Int) : List (Int × List UInt8) := wordsN s (s.length - pos) pos fr
def wordsOf (s : List UInt8) : List (Int × List UInt8) := wordsFrom s 0 (-1)
def longN (b : Int) : Nat := if b < 128 then 1 else if b < 192 ∨ 247 < b then 0 else if b < 224 then 2 else if b < 240 then 3 else 4
def scalarB (r : Int) : Bool := decide (0 ≤ r) && decide (r ≤ 1114111) && (decide (r < 55296) || decide (57343 < r))
def widthN (r : Int) : Nat := if scalarB r = true then if r < 128 then 1 else if r < 2048 then 2 else if r < 65536 then 3 else 4 else 0
def bitsT : List Nat := [0, 127, 31, 15, 7]
def leastT : List Nat := [0, 0, 128, 2048, 65536]
def atN (s : List UInt8) (p : Nat) : Nat → Nat → Nat → Nat × Nat
  | 0, _, x => (0, x)
  | f + 1, i, x => match s[p + i]? with
    | none => (11, 0)
    | some b => if b.toNat < 128 ∨ 191 < b.toNat then (12, 0) else atN s p f (i + 1) (x * 64 + b.toNat - 128)
def finF (n : Nat) (r : Nat × Nat) : Nat × Int × Int :=
  if r.1 ≠ 0 then (1, 65533, r.1) else if r.2 < leastT.getD n 0 then (1, 65533, 13) else if 55296 ≤ r.2 ∧ r.2 ≤ 57343 then (1, 65533, 14) else if 1114111 < r.2 then (1, 65533, 15) else (n, r.2, 0)
def atG (s : List UInt8) (p n i x : Nat) : Nat × Int × Int := finF n (atN s p (n - i) i x)
def atF (s : List UInt8) (p : Nat) : Nat × Int × Int :=
  let c := (s.getD p 0).toNat
  if longN c = 0 then (1, 65533, 10) else atG s p (longN c) 1 (c &&& bitsT.getD (longN c) 0)
def atH (s : List UInt8) (p i x : Nat) : Nat × Int × Int := atG s p (longN (((s.getD p 0).toNat : Nat) : Int)) i x
def encSpot (x : Nat × Nat × Int × Int) : List Value := [.int .i64 (x.1 : Int), .int .i64 (x.2.1 : Int), .int .i32 x.2.2.1, .int .i64 x.2.2.2]
def spotsN (s : List UInt8) : Nat → Nat → List (Nat × Nat × Int × Int)
  | 0, _ => []
  | f + 1, p => if p < s.length then (p, (atF s p).1, (atF s p).2.1, (atF s p).2.2) :: spotsN s f (p + (atF s p).1) else []
def spotsFrom (s : List UInt8) (p : Nat) : List (Nat × Nat × Int × Int) := spotsN s (s.length - p) p
def rrunes (s : List UInt8) : List Int := (spotsFrom s 0).map fun x => x.2.2.1
def dropW (r : Int) : Bool := blankB r || r == 95 || r == 45
def lowerI (r : Int) : Int := if 65 ≤ r ∧ r ≤ 90 then r + 32 else r
def looseL (l : List Int) : List Int := (l.filter (fun r => !dropW r)).map lowerI
theorem looseL_cons (r : Int) (l : List Int) : looseL (r :: l) = if dropW r then looseL l else lowerI r :: looseL l := by
  cases h : dropW r <;> simp [looseL, h]
def looseS (s : List UInt8) : List UInt8 := encL (looseL (runesFrom s 0))
def alikeB (a b : List UInt8) : Bool := decide (looseS a = looseS b)
def shortTab : List (List UInt8) := [[], [76], [82], [65, 76], [69, 78], [69, 83], [69, 84], [65, 78], [67, 83], [78, 83, 77], [66, 78], [66], [83], [87, 83], [79, 78], [76, 82, 69], [76, 82, 79], [82, 76, 69], [82, 76, 79], [80, 68, 70], [76, 82, 73], [82, 76, 73], [70, 83, 73], [80, 68, 73]]
def longTab : List (List UInt8) := [[], [76, 101, 102, 116, 95, 84, 111, 95, 82, 105, 103, 104, 116], [82, 105, 103, 104, 116, 95, 84, 111, 95, 76, 101, 102, 116], [65, 114, 97, 98, 105, 99, 95, 76, 101, 116, 116, 101, 114], [69, 117, 114, 111, 112, 101, 97, 110, 95, 78, 117, 109, 98, 101, 114], [69, 117, 114, 111, 112, 101, 97, 110, 95, 83, 101, 112, 97, 114, 97, 116, 111, 114], [69, 117, 114, 111, 112, 101, 97, 110, 95, 84, 101, 114, 109, 105, 110, 97, 116, 111, 114], [65, 114, 97, 98, 105, 99, 95, 78, 117, 109, 98, 101, 114], [67, 111, 109, 109, 111, 110, 95, 83, 101, 112, 97, 114, 97, 116, 111, 114], [78, 111, 110, 115, 112, 97, 99, 105, 110, 103, 95, 77, 97, 114, 107], [66, 111, 117, 110, 100, 97, 114, 121, 95, 78, 101, 117, 116, 114, 97, 108], [80, 97, 114, 97, 103, 114, 97, 112, 104, 95, 83, 101, 112, 97, 114, 97, 116, 111, 114], [83, 101, 103, 109, 101, 110, 116, 95, 83, 101, 112, 97, 114, 97, 116, 111, 114], [87, 104, 105, 116, 101, 95, 83, 112, 97, 99, 101], [79, 116, 104, 101, 114, 95, 78, 101, 117, 116, 114, 97, 108], [76, 101, 102, 116, 95, 84, 111, 95, 82, 105, 103, 104, 116, 95, 69, 109, 98, 101, 100, 100, 105, 110, 103], [76, 101, 102, 116, 95, 84, 111, 95, 82, 105, 103, 104, 116, 95, 79, 118, 101, 114, 114, 105, 100, 101], [82, 105, 103, 104, 116, 95, 84, 111, 95, 76, 101, 102, 116, 95, 69, 109, 98, 101, 100, 100, 105, 110, 103], [82, 105, 103, 104, 116, 95, 84, 111, 95, 76, 101, 102, 116, 95, 79, 118, 101, 114, 114, 105, 100, 101], [80, 111, 112, 95, 68, 105, 114, 101, 99, 116, 105, 111, 110, 97, 108, 95, 70, 111, 114, 109, 97, 116], [76, 101, 102, 116, 95, 84, 111, 95, 82, 105, 103, 104, 116, 95, 73, 115, 111, 108, 97, 116, 101], [82, 105, 103, 104, 116, 95, 84, 111, 95, 76, 101, 102, 116, 95, 73, 115, 111, 108, 97, 116, 101], [70, 105, 114, 115, 116, 95, 83, 116, 114, 111, 110, 103, 95, 73, 115, 111, 108, 97, 116, 101], [80, 111, 112, 95, 68, 105, 114, 101, 99, 116, 105, 111, 110, 97, 108, 95, 73, 115, 111, 108, 97, 116, 101]]
def shortS (c : Int) : List UInt8 := if 1 ≤ c ∧ c ≤ 23 then shortTab.getD c.toNat [] else []
def longS (c : Int) : List UInt8 := if 1 ≤ c ∧ c ≤ 23 then longTab.getD c.toNat [] else []
def shortF (c : Int) : List UInt8 := if 15 ≤ c then shortS c else []
def longF (c : Int) : List UInt8 := if 15 ≤ c then longS c else []
theorem shortF_eq {c : Int} (h : c < 1 ∨ 15 ≤ c) : shortF c = shortS c := by
  unfold shortF
  split
  · rfl
  · unfold shortS; rw [if_neg (by omega)]
theorem longF_eq {c : Int} (h : c < 1 ∨ 15 ≤ c) : longF c = longS c := by
  unfold longF
  split
  · rfl
  · unfold longS; rw [if_neg (by omega)]
theorem shortF_none {c : Int} (h : c < 15 ∨ 23 < c) : shortF c = [] := by
  unfold shortF
  split
  · unfold shortS; rw [if_neg (by omega)]
  · rfl
theorem longF_none {c : Int} (h : c < 15 ∨ 23 < c) : longF c = [] := by
  unfold longF
  split
  · unfold longS; rw [if_neg (by omega)]
  · rfl
theorem tab_ne : ∀ c : Nat, c < 23 → shortTab.getD (c + 1) [] ≠ [] ∧ longTab.getD (c + 1) [] ≠ [] := by decide
theorem shortS_nil {c : Int} : shortS c = [] ↔ ¬ (1 ≤ c ∧ c ≤ 23) := by
  unfold shortS
  split
  · rename_i h
    have := (tab_ne (c.toNat - 1) (by omega)).1
    rw [show c.toNat - 1 + 1 = c.toNat by omega] at this
    exact ⟨fun e => absurd e this, fun e => absurd h e⟩
  · rename_i h; exact ⟨fun _ => h, fun _ => rfl⟩
theorem longS_nil {c : Int} : longS c = [] ↔ ¬ (1 ≤ c ∧ c ≤ 23) := by
  unfold longS
  split
  · rename_i h
    have := (tab_ne (c.toNat - 1) (by omega)).2
    rw [show c.toNat - 1 + 1 = c.toNat by omega] at this
    exact ⟨fun e => absurd e this, fun e => absurd h e⟩
  · rename_i h; exact ⟨fun _ => h, fun _ => rfl⟩
theorem tab_len : ∀ c : Nat, c < 23 → (shortTab.getD (c + 1) []).length ≤ 30 ∧ (longTab.getD (c + 1) []).length ≤ 30 := by decide
theorem shortS_len (c : Int) : (shortS c).length ≤ 30 := by
  unfold shortS
  split
  · have := (tab_len (c.toNat - 1) (by omega)).1
    rwa [show c.toNat - 1 + 1 = c.toNat by omega] at this
  · simp
theorem longS_len (c : Int) : (longS c).length ≤ 30 := by
  unfold longS
  split
  · have := (tab_len (c.toNat - 1) (by omega)).2
    rwa [show c.toNat - 1 + 1 = c.toNat by omega] at this
  · simp
def toldE (c : Int) : Int := if 1 ≤ c ∧ c ≤ 23 then 0 else 2
def classN (name : List UInt8) : Nat → Int → Int × Int
  | 0, _ => (0, 50)
  | n + 1, c => if c ≤ 23 then if alikeB name (shortS c) = true then (c, 0) else if alikeB name (longS c) = true then (c, 0) else classN name n (c + 1) else (0, 50)
def classFrom (name : List UInt8) (c : Int) : Int × Int := classN name (24 - c).toNat c
theorem classFrom_step {name : List UInt8} {c : Int} (h : c ≤ 23) : classFrom name c = if alikeB name (shortS c) = true then (c, 0) else if alikeB name (longS c) = true then (c, 0) else classFrom name (c + 1) := by
  unfold classFrom
  obtain ⟨n, hn⟩ : ∃ n, (24 - c).toNat = n + 1 := ⟨(24 - c).toNat - 1, by omega⟩
  rw [hn, classN, if_pos h, show (24 - (c + 1)).toNat = n by omega]
theorem classFrom_end {name : List UInt8} {c : Int} (h : 23 < c) : classFrom name c = (0, 50) := by
  unfold classFrom
  rw [show (24 - c).toNat = 0 by omega]; rfl
def classF (name : List UInt8) : Int × Int := classFrom name 1
def cstep (st : List Int × Int × Int) (x : Int × List UInt8) : List Int × Int × Int :=
  if st.2.2 ≠ 0 then st else if (classF x.2).2 ≠ 0 then ([], x.1, (classF x.2).2) else (st.1 ++ [(classF x.2).1], 0, 0)
def classesF (s : List UInt8) : List Int × Int × Int := (wordsOf s).foldl cstep ([], 0, 0)
def letterS (c : Int) : List UInt8 := if c = 0 then [110] else if c = 1 then [111] else if c = 2 then [99] else []
def letterE (c : Int) : Int := if c = 0 ∨ c = 1 ∨ c = 2 then 0 else 2
def sideTab : List (List UInt8) := [[78, 111, 110, 101], [79, 112, 101, 110], [67, 108, 111, 115, 101]]
def sideN (name : List UInt8) : List (List UInt8) → Int → Int × Int
  | [], _ => (0, 51)
  | x :: l, c => if alikeB name (letterS c) = true then (c, 0) else if alikeB name x = true then (c, 0) else sideN name l (c + 1)
def sideFrom (name : List UInt8) (k : Nat) : Int × Int := sideN name (sideTab.drop k) k
def sideF (name : List UInt8) : Int × Int := sideFrom name 0
end Go.FK
end

/- === PLapart === -/
section
/- Plain laws of chapter 3: two texts, one behind the other: the lines of both, those of the second counted on. -/
set_option linter.unusedVariables false
namespace Go.FK
open Go Go.RowKit
def shP (n : Nat) (p : Nat × Nat × Nat) : Nat × Nat × Nat := (p.1 + n, p.2.1 + n, p.2.2 + n)
theorem getD_left {a b : List UInt8} {i : Nat} (h : i < a.length) : (a ++ b).getD i 0 = a.getD i 0 := by
  rw [List.getD_eq_getElem?_getD, List.getD_eq_getElem?_getD, List.getElem?_append_left h]
theorem getD_right {a b : List UInt8} (i : Nat) : (a ++ b).getD (i + a.length) 0 = b.getD i 0 := by
  rw [List.getD_eq_getElem?_getD, List.getD_eq_getElem?_getD, List.getElem?_append_right (by omega), Nat.add_sub_cancel]
theorem pcsN_right (a b : List UInt8) : ∀ (n fr i : Nat), fr ≤ i → pcsN (a ++ b) n (fr + a.length) (i + a.length) = (pcsN b n fr i).map (shP a.length)
  | 0, fr, i, h => by simp [pcsN, shP, Nat.add_comm]
  | n + 1, fr, i, h => by
    rw [pcsN, pcsN, getD_right]
    have h1 : i + a.length + 1 = (i + 1) + a.length := by omega
    split
    · rw [h1, pcsN_right a b n (i + 1) (i + 1) (Nat.le_refl _), List.map_cons]
      congr 1
      unfold shP
      simp only [Prod.mk.injEq, true_and]
      refine ⟨?_, trivial⟩
      unfold crN
      by_cases hc : fr < i
      · have e : (a ++ b).getD (i + a.length - 1) 0 = b.getD (i - 1) 0 := by rw [show i + a.length - 1 = (i - 1) + a.length by omega, getD_right]
        rw [e]
        by_cases h13 : b.getD (i - 1) 0 = 13
        · rw [if_pos ⟨by omega, h13⟩, if_pos ⟨hc, h13⟩]; omega
        · rw [if_neg (fun q => h13 q.2), if_neg (fun q => h13 q.2)]
      · rw [if_neg (fun q => hc (by have := q.1; omega)), if_neg (fun q => hc q.1)]
    · rw [h1, pcsN_right a b n fr (i + 1) (by omega)]
theorem pcsN_left (a b : List UInt8) (hl : a.getD (a.length - 1) 0 = 10) : ∀ (n fr i : Nat), n = a.length - i → fr ≤ i → i ≤ a.length → (i = a.length → fr = i) →
    ∃ init, pcsN a n fr i = init ++ [(a.length, a.length, a.length)] ∧ pcsN (a ++ b) (n + b.length) fr i = init ++ pcsN (a ++ b) b.length a.length a.length ∧ ∀ p ∈ init, p.1 ≤ p.2.1 ∧ p.2.1 ≤ a.length
  | 0, fr, i, hn, h1, h2, h3 => by
    obtain rfl : i = a.length := by omega
    obtain rfl := h3 rfl
    exact ⟨[], rfl, by rw [Nat.zero_add]; rfl, fun p hp => by cases hp⟩
  | n + 1, fr, i, hn, h1, h2, h3 => by
    have hi : i < a.length := by omega
    rw [show n + 1 + b.length = (n + b.length) + 1 by omega, pcsN, pcsN, getD_left hi]
    by_cases h10 : a.getD i 0 = 10
    · rw [if_pos h10, if_pos h10]
      obtain ⟨init, e1, e2, e3⟩ := pcsN_left a b hl n (i + 1) (i + 1) (by omega) (Nat.le_refl _) (by omega) (fun _ => rfl)
      have hcr : crN (a ++ b) fr i = crN a fr i := by
        unfold crN
        by_cases hc : fr < i
        · rw [getD_left (by omega)]
        · rw [if_neg (fun q => hc q.1), if_neg (fun q => hc q.1)]
      refine ⟨(fr, crN a fr i, i + 1) :: init, by rw [e1]; rfl, by rw [e2, hcr]; rfl, fun p hp => ?_⟩
      rcases List.mem_cons.1 hp with rfl | hp
      · have := crN_le a fr i; simp only; omega
      · exact e3 p hp
    · rw [if_neg h10, if_neg h10]
      refine pcsN_left a b hl n fr (i + 1) (by omega) (by omega) (by omega) (fun e => ?_)
      exfalso
      apply h10
      rw [show i = a.length - 1 by omega]; exact hl
theorem markN_app {a b : List UInt8} (hn : a ≠ []) (hl : a.getD (a.length - 1) 0 = 10) : markN (a ++ b) = markN a := by
  unfold markN hpB markT
  match a, hn with
  | [x], _ =>
    have : x = 10 := by simpa using hl
    subst this; simp [List.isPrefixOf]
  | [x, y], _ =>
    have : y = 10 := by simpa using hl
    subst this; simp [List.isPrefixOf]
  | x :: y :: z :: l, _ => simp [List.isPrefixOf]
theorem pcsR_app {a b : List UInt8} (hn : a ≠ []) (hl : a.getD (a.length - 1) 0 = 10) (hb : markN b = 0) : pcsR (a ++ b) = pcsR a ++ (pcsR b).map (shP a.length) := by
  unfold pcsR pcsFrom
  rw [markN_app hn hl, hb]
  have hm := mark_len a
  have hm2 : markN a = a.length → markN a = markN a := fun _ => rfl
  obtain ⟨init, e1, e2, _⟩ := pcsN_left a b hl (a.length - markN a) (markN a) (markN a) rfl (Nat.le_refl _) hm (fun _ => rfl)
  rw [List.length_append, show a.length + b.length - markN a = (a.length - markN a) + b.length by omega, e1, e2]
  have e3 := pcsN_right a b b.length 0 0 (Nat.le_refl _)
  rw [Nat.zero_add] at e3
  rw [e3, List.filter_append, List.filter_append]
  have h0 : List.filter keepP [(a.length, a.length, a.length)] = [] := by simp [keepP]
  rw [h0, List.append_nil, Nat.sub_zero]
  congr 1
  rw [List.filter_map]
  congr 1
  apply List.filter_congr
  intro p _
  simp [keepP, shP]
theorem toldR_app (s : List UInt8) : ∀ (l m : List (Nat × Nat × Nat)) (k : Nat), toldR s k (l ++ m) = toldR s k l ++ toldR s (k + l.length) m
  | [], m, k => by simp [toldR]
  | p :: l, m, k => by rw [List.cons_append, toldR, toldR_app s l m (k + 1), toldR, List.length_cons, show k + 1 + l.length = k + (l.length + 1) by omega]; rfl
theorem toldR_left (a b : List UInt8) : ∀ (l : List (Nat × Nat × Nat)) (k : Nat), (∀ p ∈ l, p.2.1 ≤ a.length) → toldR (a ++ b) k l = toldR a k l
  | [], k, h => rfl
  | p :: l, k, h => by
    rw [toldR, toldR, toldR_left a b l (k + 1) (fun q hq => h q (List.mem_cons_of_mem _ hq)), List.take_append_of_le_length (h p List.mem_cons_self)]
def shT (n : Nat) (x : Int × List UInt8) : Int × List UInt8 := (x.1 + n, x.2)
theorem toldR_right (a b : List UInt8) : ∀ (l : List (Nat × Nat × Nat)) (k n : Nat), toldR (a ++ b) (k + n) (l.map (shP a.length)) = (toldR b k l).map (shT n)
  | [], k, n => rfl
  | p :: l, k, n => by
    rw [List.map_cons, toldR, toldR, List.map_cons, show k + n + 1 = (k + 1) + n by omega, toldR_right a b l (k + 1) n]
    congr 1
    unfold shT shP
    simp only [Prod.mk.injEq]
    refine ⟨by omega, ?_⟩
    have e1 : (a ++ b).take (p.2.1 + a.length) = a ++ b.take p.2.1 := by rw [List.take_append, List.take_of_length_le (by omega), Nat.add_sub_cancel]
    rw [e1, List.drop_append, List.drop_of_length_le (by omega), List.nil_append, Nat.add_sub_cancel]
theorem told_app {a b : List UInt8} (hn : a ≠ []) (hl : a.getD (a.length - 1) 0 = 10) (hb : markN b = 0) : toldF (a ++ b) = toldF a ++ (toldF b).map (shT (toldF a).length) := by
  rw [told_ref, told_ref, told_ref, pcsR_app hn hl hb, toldR_app, toldR_left a b (pcsR a) 0 (fun p hp => by
    obtain ⟨i, hi⟩ := List.mem_iff_getElem?.1 hp
    have := pcsR_ok hi; omega), toldR_len, toldR_right]
def shL (n : Nat) (x : LineD) : LineD := (x.1 + n, x.2)
theorem scan_sh (no : Int) (n : Nat) (s : List UInt8) : (scanF (no + n) s).2 = (scanF no s).2 ∧ ((scanF no s).2 = 0 → (scanF (no + n) s).1 = shL n (scanF no s).1) := by
  unfold scanF shL
  by_cases h0 : (chkF s).2 ≠ 0
  · rw [if_pos h0, if_pos h0]; exact ⟨rfl, fun e => absurd e h0⟩
  · rw [if_neg h0, if_neg h0]
    by_cases h1 : headF s = []
    · rw [if_pos h1, if_pos h1]
      by_cases h2 : hpB (noteF s) missT = true
      · rw [if_pos h2, if_pos h2]; exact ⟨rfl, fun _ => rfl⟩
      · rw [if_neg h2, if_neg h2]; exact ⟨rfl, fun _ => rfl⟩
    · rw [if_neg h1, if_neg h1]
      by_cases h2 : hpB (headF s) [64] = true
      · rw [if_pos h2, if_pos h2]
        by_cases h3 : (ordF s).2.2 = false ∨ nameF (ordF s).1 = false
        · rw [if_pos h3, if_pos h3]; exact ⟨rfl, fun e => by simp at e⟩
        · rw [if_neg h3, if_neg h3]; exact ⟨rfl, fun _ => rfl⟩
      · rw [if_neg h2, if_neg h2]; exact ⟨rfl, fun _ => rfl⟩
theorem bad_sh (n : Nat) : ∀ l : List (Int × List UInt8), (badL (l.map (shT n))).2 = (badL l).2 ∧ ((badL l).2 ≠ 0 → (badL (l.map (shT n))).1 = (badL l).1 + n)
  | [] => ⟨rfl, fun h => absurd rfl h⟩
  | x :: l => by
    have h1 := scan_sh x.1 n x.2
    have ih := bad_sh n l
    rw [List.map_cons, badL, badL]
    show _ ∧ _
    unfold shT
    simp only [h1.1]
    by_cases h : (scanF x.1 x.2).2 ≠ 0
    · rw [if_pos h, if_pos h]; exact ⟨rfl, fun _ => rfl⟩
    · rw [if_neg h, if_neg h]; exact ih
theorem lines_sh (n : Nat) : ∀ l : List (Int × List UInt8), (badL l).2 = 0 → linesF (l.map (shT n)) = (linesF l).map (shL n)
  | [], _ => rfl
  | x :: l, h => by
    rw [badL] at h
    by_cases hx : (scanF x.1 x.2).2 ≠ 0
    · rw [if_pos hx] at h; exact absurd h hx
    · rw [if_neg hx] at h
      have ih := lines_sh n l h
      unfold linesF at ih ⊢
      rw [List.map_cons, List.map_cons, List.map_cons, List.map_cons, ih]
      congr 1
      exact (scan_sh x.1 n x.2).2 (by omega)
section
variable {a b : List UInt8}
end
def shI (n i : Nat) (l : List LineD) : List LineD := (l.take i).map (shL n) ++ l.drop i
section
variable {F : Nat} {w w' : World} {B E k : Nat} {enc : LineV → List Value} {v u q : Value} {xs ys : List LineV}
end
end Go.FK
end

/- === FKai === -/
section
/- FKai: a call walked in place; an iterator that hands its yield on to another one. My own text. -/
namespace Go.FK
open Go Go.RowKit
section
variable {r : Option Nat} {P : Program} {n : Nat} {Q : Post} {s : Fm} {w : World} {ops : Array Oper} {rest : List Oper}
variable {d : Option Tmp} {ty : TypeId} {pos : String} {af : Array Edge}
theorem L_inline {op : Op} (f : FuncId) (args : List Value) (hrun : (execOp (s.ev n) ⟨d, op, ty, pos, af, none⟩).run P w = .ok (.enter f args.toArray) w) (hd : notDefer op = true)
    (hc : Calls P f args.toArray w (Ret fun v w' => L r P n ops Q rest (s.put d v) w')) : L r P n ops Q (⟨d, op, ty, pos, af, none⟩ :: rest) s w :=
  yA f args hrun hd hc (fun _ _ h => h)
end
theorem iter_tail {α : Type} {P : Program} {g : FuncId} {lb : List Value} {encs : α → List Value} {els : List α} {N N1 : World → Prop} {l : Nat} {J Jx : Nat → List α → World → Prop} {w w1 : World}
    (hI : Iter P g lb encs els N1) (h1 : N1 w1) (hle : w.heap.size ≤ w1.heap.size)
    (h0 : ∀ A, Below w1.heap.size w1 A → J A.heap.size [] A)
    (hJs : ∀ K pre A B, J K pre A → Ch (Iv w.heap.size K) A B → J K pre B)
    (hJxs : ∀ K pre A B, Jx K pre A → Ch (Iv w.heap.size K) A B → Jx K pre B)
    (hNb : ∀ A, Below w1.heap.size w1 A → N A)
    (hNc : ∀ K A B, N A → Ch (Iv w1.heap.size K) A B → N B)
    (hN1 : ∀ K A B, w1.heap.size ≤ K → N1 A → N B → Kp w.heap.size K A B → N1 B)
    (hY : ∀ K pre x A, J K pre A → N A → w.heap.size ≤ K → K ≤ A.heap.size → pre ++ [x] <+: els → YieldAt (Fw none) 0 P l (encs x).toArray A fun e A' =>
      (e = .returned (.bool true) ∧ J K (pre ++ [x]) A' ∧ Kp w.heap.size K A A' ∧ N A') ∨ (e = .returned (.bool false) ∧ Jx K (pre ++ [x]) A' ∧ Kp w.heap.size K A A')) :
    Calls P g (.func (.yield l) #[] #[] :: lb).toArray w1 (Ret fun _ w' => w1.heap.size ≤ w'.heap.size ∧ ((∃ K, J K els w') ∨ (∃ K pre x, pre ++ [x] <+: els ∧ Jx K (pre ++ [x]) w'))) := by
  have hiv : ∀ K k, Iv w1.heap.size K k → Iv w.heap.size K k := fun K k h => ⟨Nat.le_trans hle h.1, h.2⟩
  have h := hI l (fun K pre A => J K pre A ∧ N A) Jx w1 h1 (fun A hA => ⟨h0 A hA, hNb A hA⟩)
    (fun K pre A B h hc => ⟨hJs K pre A B h.1 (hc.mono (hiv K)), hNc K A B h.2 hc⟩)
    (fun K pre A B h hc => hJxs K pre A B h (hc.mono (hiv K)))
    (fun K pre x A hj hn1 hK hKA hp => by
      refine YieldAt.mono (hY K pre x A hj.1 hj.2 (Nat.le_trans hle hK) hKA hp) ?_
      rintro e A' (⟨he, h2, h3, h4⟩ | ⟨he, h2, h3⟩)
      · exact .inl ⟨he, ⟨h2, h4⟩, h3.narrow hle, hN1 K A A' hK hn1 h4 h3⟩
      · exact .inr ⟨he, h2, h3.narrow hle⟩)
  refine Calls.mono h ?_
  rintro e w' ⟨v, he, h2, h3⟩
  refine ⟨v, he, h2, ?_⟩
  rcases h3 with ⟨K, h3⟩ | h3
  · exact .inl ⟨K, h3.1⟩
  · exact .inr h3
theorem NRow.ch_mut {F B E k b : Nat} {w w' : World} {enc : LineV → List Value} {v vm : Value} {xs : List LineV} (h : NRow F w B E k enc v xs) (hc : Ch (Dm b vm) w w') (h1 : ¬ NOwn v xs b) (h2 : NAp v xs vm.ownBlock) : NRow F w' B E k enc v xs :=
  ⟨h.1.ch_mut hc (fun e => h1 (.inl e)) h2.1, fun x hx => (h.2 x hx).ch_mut hc (fun e => h1 (.inr ⟨x, hx, e⟩)) (h2.2 x hx)⟩
def encVal (v : Value) : List Value := [v]
theorem pick4 {α : Type} {a b c d e : α} {n : Nat} (h : ([a, b, c, d] : List α)[n]? = some e) : (n = 0 ∧ e = a) ∨ (n = 1 ∧ e = b) ∨ (n = 2 ∧ e = c) ∨ (n = 3 ∧ e = d) := by
  match n, h with
  | 0, h => exact .inl ⟨rfl, (Option.some.inj h).symm⟩
  | 1, h => exact .inr (.inl ⟨rfl, (Option.some.inj h).symm⟩)
  | 2, h => exact .inr (.inr (.inl ⟨rfl, (Option.some.inj h).symm⟩))
  | 3, h => exact .inr (.inr (.inr ⟨rfl, (Option.some.inj h).symm⟩))
end Go.FK
end

/- === PCls === -/
section
/- PCls: what a file of classes says: lines taken one by one, the first that is wrong; what the table tells. My own text. -/
set_option linter.unusedVariables false
namespace Go.FK
open Go Go.RowKit
def encSpanC (x : SpI) : List Value := [.int .i32 x.1, .int .i32 x.2.1, .int .u8 x.2.2]
abbrev eqC := eqI
theorem eqC_y {a b : Int} (h : a = b) : eqC a b = true := eqI_y h
theorem eqC_n {a b : Int} (h : a ≠ b) : eqC a b = false := eqI_n h
theorem hex_rng (s : List UInt8) : 0 ≤ (hexF s).1 ∧ (hexF s).1 ≤ 1114111 := by
  unfold hexF
  split
  · exact ⟨Int.le_refl _, by simp⟩
  · split
    · exact ⟨Int.le_refl _, by simp⟩
    · split
      · exact ⟨Int.le_refl _, by simp⟩
      · exact ⟨by simp only; omega, by simp only; omega⟩
theorem span_rng (s : List UInt8) : (0 ≤ (spanF s).1 ∧ (spanF s).1 ≤ 1114111) ∧ (0 ≤ (spanF s).2.1 ∧ (spanF s).2.1 ≤ 1114111) := by
  unfold spanF
  split
  · split
    · exact ⟨⟨Int.le_refl _, by simp⟩, Int.le_refl _, by simp⟩
    · exact ⟨hex_rng _, hex_rng _⟩
  · split
    · exact ⟨⟨Int.le_refl _, by simp⟩, Int.le_refl _, by simp⟩
    · split
      · exact ⟨⟨Int.le_refl _, by simp⟩, Int.le_refl _, by simp⟩
      · exact ⟨hex_rng _, hex_rng _⟩
def toldC (f : List (List UInt8)) (wrong : Int) : Int × Int × Int × Int :=
  if f.length ≠ 2 then (0, 0, 0, wrong) else
  if (spanF (f.getD 0 [])).2.2 ≠ 0 then (0, 0, 0, (spanF (f.getD 0 [])).2.2)
  else ((spanF (f.getD 0 [])).1, (spanF (f.getD 0 [])).2.1, (classF (f.getD 1 [])).1, (classF (f.getD 1 [])).2)
theorem getF_at {l : List (List UInt8)} {i : Nat} {x : List UInt8} (h : l[i]? = some x) : l.getD i [] = x := by rw [List.getD_eq_getElem?_getD, h]; rfl
section
variable {f : List (List UInt8)} {a b : List UInt8} {wrong : Int}
theorem tc_no (h : f.length ≠ 2) : toldC f wrong = (0, 0, 0, wrong) := by unfold toldC; rw [if_pos h]
theorem tc_span (h : f.length = 2) (ha : f[0]? = some a) (h2 : (spanF a).2.2 ≠ 0) : toldC f wrong = (0, 0, 0, (spanF a).2.2) := by
  unfold toldC; rw [if_neg (by omega), getF_at ha, if_pos h2]
theorem tc_ok (h : f.length = 2) (ha : f[0]? = some a) (hb : f[1]? = some b) (h2 : (spanF a).2.2 = 0) : toldC f wrong = ((spanF a).1, (spanF a).2.1, (classF b).1, (classF b).2) := by
  unfold toldC; rw [if_neg (by omega), getF_at ha, getF_at hb, if_neg (by omega)]
theorem tc_rng (f : List (List UInt8)) (wrong : Int) : (0 ≤ (toldC f wrong).1 ∧ (toldC f wrong).1 ≤ 1114111) ∧ (0 ≤ (toldC f wrong).2.1 ∧ (toldC f wrong).2.1 ≤ 1114111) := by
  unfold toldC
  split
  · exact ⟨⟨Int.le_refl _, by simp⟩, Int.le_refl _, by simp⟩
  · split
    · exact ⟨⟨Int.le_refl _, by simp⟩, Int.le_refl _, by simp⟩
    · exact span_rng _
end
abbrev TabC := List SpI × List SpI × List SpI
def stepC (t : TabC) (no k : Int) (f : List (List UInt8)) : TabC × Int :=
  if k = 1 then
    if (toldC f 70).2.2.2 ≠ 0 then (t, (toldC f 70).2.2.2)
    else if putE t.2.1 (toldC f 70).1 (toldC f 70).2.1 ≠ 0 then (t, putE t.2.1 (toldC f 70).1 (toldC f 70).2.1)
    else ((putF eqI t.1 (toldC f 70).1 (toldC f 70).2.1 (toldC f 70).2.2.1, putF eqI t.2.1 (toldC f 70).1 (toldC f 70).2.1 no, t.2.2), putE t.1 (toldC f 70).1 (toldC f 70).2.1)
  else if k = 2 then (t, 33)
  else if k = 3 then
    if (toldC f 71).2.2.2 ≠ 0 then (t, (toldC f 71).2.2.2)
    else ((t.1, t.2.1, t.2.2 ++ [((toldC f 71).1, (toldC f 71).2.1, (toldC f 71).2.2.1)]), 0)
  else (t, 0)
def stepL (t : TabC) (x : LineD) : TabC × Int := stepC t x.1 x.2.1 x.2.2.2.1
def goC : TabC → List LineD → TabC × Int × Int
  | t, [] => (t, 0, 0)
  | t, x :: l => if (stepL t x).2 ≠ 0 then (t, x.1, (stepL t x).2) else goC (stepL t x).1 l
def clsF (s : List UInt8) : TabC × Int × Int :=
  if (badL (toldF s)).2 ≠ 0 then (([], [], []), (badL (toldF s)).1, (badL (toldF s)).2) else goC ([], [], []) (linesF (toldF s))
def wholeF (t : TabC) : List SpI := layAll eqI (layAll eqI (layF eqI [] 0 1114111 1) t.2.2) t.1
theorem cls_bad {s : List UInt8} (h : (badL (toldF s)).2 ≠ 0) : clsF s = (([], [], []), (badL (toldF s)).1, (badL (toldF s)).2) := by unfold clsF; rw [if_pos h]
theorem cls_ok1 {s : List UInt8} (h : (clsF s).2.2 = 0) : (badL (toldF s)).2 = 0 := by
  cases hq : decide ((badL (toldF s)).2 = 0) with
  | true => exact of_decide_eq_true hq
  | false => rw [cls_bad (of_decide_eq_false hq)] at h; exact h
def invC (s : List UInt8) (xs : List LineV) (k : Nat) (t : TabC) : Prop := (badL (toldF s)).2 = 0 ∧ goC t ((xs.drop k).map stripL) = goC ([], [], []) (linesF (toldF s))
theorem drop_line {α : Type} {l : List α} {i : Nat} {x : α} (h : l[i]? = some x) : l.drop i = x :: l.drop (i + 1) := by
  obtain ⟨h1, h2⟩ := List.getElem?_eq_some_iff.1 h
  rw [List.drop_eq_getElem_cons h1, h2]
section
variable {s : List UInt8} {xs : List LineV} {k : Nat} {t t' : TabC} {x : LineV} {no kd e : Int} {f : List (List UInt8)}
theorem invC_zero (hb : (badL (toldF s)).2 = 0) (h : xs.map stripL = linesF (toldF s)) : invC s xs 0 ([], [], []) := ⟨hb, by rw [List.drop_zero, h]⟩
theorem invC_on (h : invC s xs k t) (hx : xs[k]? = some x) (hs : stepC t x.1 x.2.1 x.fs = (t', 0)) : invC s xs (k + 1) t' := by
  refine ⟨h.1, ?_⟩
  rw [← h.2, drop_line hx, List.map_cons, goC, if_neg, show stepL t (stripL x) = (t', 0) from hs]
  rw [show stepL t (stripL x) = (t', 0) from hs]; simp
theorem invC_bad (h : invC s xs k t) (hx : xs[k]? = some x) (hs : (stepC t x.1 x.2.1 x.fs).2 = e) (he : e ≠ 0) : clsF s = (t, x.1, e) := by
  unfold clsF
  have h2 := h.2
  rw [drop_line hx, List.map_cons, goC, if_pos (by show (stepC t x.1 x.2.1 x.fs).2 ≠ 0; rw [hs]; exact he)] at h2
  rw [if_neg (by rw [h.1]; decide), ← h2, ← hs]; rfl
theorem invC_end (h : invC s xs k t) (hk : xs.length ≤ k) : clsF s = (t, 0, 0) := by
  unfold clsF
  have h2 := h.2
  rw [List.drop_eq_nil_of_le hk] at h2
  rw [if_neg (by rw [h.1]; decide), ← h2]; rfl
theorem st_data (hk : kd = 1) (h1 : (toldC f 70).2.2.2 = 0) (h2 : putE t.2.1 (toldC f 70).1 (toldC f 70).2.1 = 0) (h3 : putE t.1 (toldC f 70).1 (toldC f 70).2.1 = 0) :
    stepC t no kd f = ((putF eqI t.1 (toldC f 70).1 (toldC f 70).2.1 (toldC f 70).2.2.1, putF eqI t.2.1 (toldC f 70).1 (toldC f 70).2.1 no, t.2.2), 0) := by
  unfold stepC; rw [if_pos hk, if_neg (by omega), if_neg (by omega), h3]
theorem st_data1 (hk : kd = 1) (h1 : (toldC f 70).2.2.2 ≠ 0) : (stepC t no kd f).2 = (toldC f 70).2.2.2 := by unfold stepC; rw [if_pos hk, if_pos h1]
theorem st_data2 (hk : kd = 1) (h1 : (toldC f 70).2.2.2 = 0) (h2 : putE t.2.1 (toldC f 70).1 (toldC f 70).2.1 ≠ 0) : (stepC t no kd f).2 = putE t.2.1 (toldC f 70).1 (toldC f 70).2.1 := by
  unfold stepC; rw [if_pos hk, if_neg (by omega), if_pos h2]
theorem st_data3 (hk : kd = 1) (h1 : (toldC f 70).2.2.2 = 0) (h2 : putE t.2.1 (toldC f 70).1 (toldC f 70).2.1 = 0) : (stepC t no kd f).2 = putE t.1 (toldC f 70).1 (toldC f 70).2.1 := by
  unfold stepC; rw [if_pos hk, if_neg (by omega), if_neg (by omega)]
theorem st_blank (hk : kd = 0) : stepC t no kd f = (t, 0) := by unfold stepC; rw [if_neg (by omega), if_neg (by omega), if_neg (by omega)]
theorem st_order (hk : kd = 2) : (stepC t no kd f).2 = 33 := by unfold stepC; rw [if_neg (by omega), if_pos hk]
theorem st_miss (hk : kd = 3) (h1 : (toldC f 71).2.2.2 = 0) : stepC t no kd f = ((t.1, t.2.1, t.2.2 ++ [((toldC f 71).1, (toldC f 71).2.1, (toldC f 71).2.2.1)]), 0) := by
  unfold stepC; rw [if_neg (by omega), if_neg (by omega), if_pos hk, if_neg (by omega)]
theorem st_miss1 (hk : kd = 3) (h1 : (toldC f 71).2.2.2 ≠ 0) : (stepC t no kd f).2 = (toldC f 71).2.2.2 := by
  unfold stepC; rw [if_neg (by omega), if_neg (by omega), if_pos hk, if_pos h1]
end
theorem step_ok (t : TabC) (x : LineD) (h1 : MapOk eqI t.1) (h2 : MapOk eqI t.2.1) : MapOk eqI (stepL t x).1.1 ∧ MapOk eqI (stepL t x).1.2.1 ∧ (stepL t x).1.2.2.length ≤ t.2.2.length + 1 := by
  unfold stepL stepC
  repeat' split
  all_goals first | exact ⟨h1, h2, by simp only; omega⟩ | exact ⟨h1.put eqI_law _ _ _, h2.put eqI_law _ _ _, by simp only; omega⟩ | exact ⟨h1, h2, by simp⟩
theorem go_ok : ∀ (l : List LineD) (t : TabC), MapOk eqI t.1 → MapOk eqI t.2.1 → MapOk eqI (goC t l).1.1 ∧ MapOk eqI (goC t l).1.2.1 ∧ (goC t l).1.2.2.length ≤ t.2.2.length + l.length
  | [], t, h1, h2 => ⟨h1, h2, Nat.le_add_right _ _⟩
  | x :: l, t, h1, h2 => by
    unfold goC
    split
    · exact ⟨h1, h2, Nat.le_add_right _ _⟩
    · have h3 := step_ok t x h1 h2
      have ih := go_ok l _ h3.1 h3.2.1
      exact ⟨ih.1, ih.2.1, by rw [List.length_cons]; have := ih.2.2; have := h3.2.2; omega⟩
theorem cls_ok (s : List UInt8) : MapOk eqI (clsF s).1.1 ∧ MapOk eqI (clsF s).1.2.1 ∧ (clsF s).1.2.2.length ≤ s.length + 1 := by
  unfold clsF
  split
  · exact ⟨MapOk.nil, MapOk.nil, Nat.zero_le _⟩
  · have h := go_ok (linesF (toldF s)) ([], [], []) MapOk.nil MapOk.nil
    refine ⟨h.1, h.2.1, ?_⟩
    have h2 : (linesF (toldF s)).length = (toldF s).length := List.length_map ..
    have h3 : (goC ([], [], []) (linesF (toldF s))).1.2.2.length ≤ 0 + (linesF (toldF s)).length := h.2.2
    have := told_len s
    omega
theorem layL_ok (l : List SpI) : ∀ (m : List SpI), MapOk eqI m → MapOk eqI (layAll eqI m l) := by
  unfold layAll
  induction l with
  | nil => intro m h; exact h
  | cons x l ih => intro m h; exact ih _ (h.lay eqI_law _ _ _)
theorem whole_ok (t : TabC) : MapOk eqI (wholeF t) := layL_ok _ _ (layL_ok _ _ (MapOk.nil.lay eqI_law _ _ _))
theorem lay_take {m l : List SpI} {i : Nat} {x : SpI} (h : l[i]? = some x) : layF eqI (layAll eqI m (l.take i)) x.1 x.2.1 x.2.2 = layAll eqI m (l.take (i + 1)) := by
  rw [← layAll_snoc, ← tk_snoc h]
def plainF (r : Int) : Int := if r < 0 ∨ 1114111 < r then 65533 else r
theorem plain_y {r : Int} (h : r < 0 ∨ 1114111 < r) : 65533 = plainF r := by unfold plainF; rw [if_pos h]
theorem plain_n {r : Int} (h1 : 0 ≤ r) (h2 : r ≤ 1114111) : r = plainF r := by unfold plainF; rw [if_neg (by omega)]
theorem scan_kind (no : Int) (s : List UInt8) : 0 ≤ (scanF no s).1.2.1 ∧ (scanF no s).1.2.1 ≤ 3 := by
  unfold scanF
  repeat' split
  all_goals exact ⟨by simp [zeroL], by simp [zeroL]⟩
theorem line_kind {l : List LineV} {d : List (Int × List UInt8)} (h : l.map stripL = linesF d) {k : Nat} {x : LineV} (hx : l[k]? = some x) : 0 ≤ x.2.1 ∧ x.2.1 ≤ 3 := by
  have h1 : (l.map stripL)[k]? = some (stripL x) := by rw [List.getElem?_map, hx]; rfl
  rw [h] at h1
  unfold linesF at h1
  rw [List.getElem?_map, Option.map_eq_some_iff] at h1
  obtain ⟨y, _, hy⟩ := h1
  have := scan_kind y.1 y.2
  rw [hy] at this
  exact this
theorem splF_el (b : UInt8) : ∀ (s : List UInt8), ∀ x ∈ splF b s, x.length ≤ s.length
  | [], x, h => by rw [splF] at h; rw [List.mem_singleton.1 h]; exact Nat.le_refl _
  | c :: l, x, h => by
    rw [splF] at h
    rw [List.length_cons]
    split at h
    · rcases List.mem_cons.1 h with rfl | h
      · exact Nat.zero_le _
      · have := splF_el b l x h; omega
    · obtain ⟨p, r, e⟩ := splF_ne b l
      have ih := splF_el b l
      rw [e] at h ih
      rcases List.mem_cons.1 h with rfl | h
      · have := ih p List.mem_cons_self
        rw [List.length_cons]; omega
      · have := ih x (List.mem_cons_of_mem _ h); omega
theorem fields_el {s x : List UInt8} (h : x ∈ fieldsF s) : x.length ≤ s.length := by
  unfold fieldsF at h
  split at h
  · cases h
  · obtain ⟨y, hy, rfl⟩ := List.mem_map.1 h
    exact Nat.le_trans (trm_len _) (splF_el 59 s y hy)
theorem cut_el {s x : List UInt8} (h : x ∈ (cutF s).1) : x.length ≤ s.length := Nat.le_trans (fields_el (show x ∈ fieldsF (Lib.cut s [35]).1 from h)) (cutl_len s [35]).1
theorem ord_len (s : List UInt8) : (ordF s).2.1.length ≤ s.length := by
  have h1 := (cutl_len ((headF s).drop 1) [58]).2
  have h2 := headF_len s
  rw [List.length_drop] at h1
  unfold ordF; omega
theorem scan_parts {no : Int} {s : List UInt8} (n : Nat) (hs : s.length ≤ n) : (∀ x ∈ (scanF no s).1.2.2.2.1, x.length ≤ n) ∧ (scanF no s).1.2.2.2.2.length ≤ n := by
  have h1 : (noteF s).length ≤ n := Nat.le_trans (noteF_len s) hs
  have h9 : ((noteF s).drop 9).length ≤ n := by rw [List.length_drop]; omega
  have z : (∀ x ∈ zeroL.2.2.2.1, x.length ≤ n) ∧ zeroL.2.2.2.2.length ≤ n := ⟨fun x hx => (by cases hx), Nat.zero_le _⟩
  unfold scanF
  by_cases c1 : (chkF s).2 ≠ 0
  · rw [if_pos c1]; exact z
  · rw [if_neg c1]
    by_cases c2 : headF s = []
    · rw [if_pos c2]
      by_cases c3 : hpB (noteF s) missT = true
      · rw [if_pos c3]; exact ⟨fun x hx => Nat.le_trans (cut_el hx) h9, Nat.le_trans (cutF_len _) h9⟩
      · rw [if_neg c3]; exact ⟨fun x hx => (by cases hx), h1⟩
    · rw [if_neg c2]
      by_cases c3 : hpB (headF s) [64] = true
      · rw [if_pos c3]
        by_cases c4 : (ordF s).2.2 = false ∨ nameF (ordF s).1 = false
        · rw [if_pos c4]; exact z
        · rw [if_neg c4]; exact ⟨fun x hx => Nat.le_trans (fields_el hx) (Nat.le_trans (ord_len s) hs), h1⟩
      · rw [if_neg c3]; exact ⟨fun x hx => Nat.le_trans (cut_el hx) hs, h1⟩
theorem scan_ok {s : List UInt8} {xs : List LineV} {k : Nat} {x : LineV} (hs : s.length ≤ 1073741823) (h : xs.map stripL = linesF (toldF s)) (hx : xs[k]? = some x) : (∀ y ∈ x.fs, y.length ≤ 1073741824) ∧ x.2.2.2.2.length ≤ 1073741824 ∧ x.fs.length ≤ 1073741824 := by
  have h1 : stripL x ∈ linesF (toldF s) := by rw [← h]; exact List.mem_map_of_mem (List.mem_of_getElem? hx)
  unfold linesF at h1
  obtain ⟨y, hy, e⟩ := List.mem_map.1 h1
  have h2 := scan_parts (no := y.1) (s := y.2) 1073741824 (by have := told_short hy; omega)
  rw [e] at h2
  exact ⟨h2.1, h2.2, fs_len h hs x (List.mem_of_getElem? hx)⟩
section
variable {s : List UInt8} {xs : List LineV} {k : Nat} {t : TabC} {x : LineV}
theorem cb_data1 (h : invC s xs k t) (hx : xs[k]? = some x) (hk : x.2.1 = 1) (h1 : (toldC x.fs 70).2.2.2 ≠ 0) : clsF s = (t, x.1, (toldC x.fs 70).2.2.2) := invC_bad h hx (st_data1 hk h1) h1
theorem cb_data2 (h : invC s xs k t) (hx : xs[k]? = some x) (hk : x.2.1 = 1) (h1 : (toldC x.fs 70).2.2.2 = 0) (h2 : putE t.2.1 (toldC x.fs 70).1 (toldC x.fs 70).2.1 ≠ 0) : clsF s = (t, x.1, putE t.2.1 (toldC x.fs 70).1 (toldC x.fs 70).2.1) := invC_bad h hx (st_data2 hk h1 h2) h2
theorem cb_data3 (h : invC s xs k t) (hx : xs[k]? = some x) (hk : x.2.1 = 1) (h1 : (toldC x.fs 70).2.2.2 = 0) (h2 : putE t.2.1 (toldC x.fs 70).1 (toldC x.fs 70).2.1 = 0) (h3 : putE t.1 (toldC x.fs 70).1 (toldC x.fs 70).2.1 ≠ 0) : clsF s = (t, x.1, putE t.1 (toldC x.fs 70).1 (toldC x.fs 70).2.1) := invC_bad h hx (st_data3 hk h1 h2) h3
theorem cb_order (h : invC s xs k t) (hx : xs[k]? = some x) (hk : x.2.1 = 2) : clsF s = (t, x.1, 33) := invC_bad h hx (st_order hk) (by decide)
theorem cb_miss (h : invC s xs k t) (hx : xs[k]? = some x) (hk : x.2.1 = 3) (h1 : (toldC x.fs 71).2.2.2 ≠ 0) : clsF s = (t, x.1, (toldC x.fs 71).2.2.2) := invC_bad h hx (st_miss1 hk h1) h1
end
theorem xQ {s : List UInt8} {t : TabC} {n e : Int} (hok : (clsF s).2.2 = 0) (h : clsF s = (t, n, e)) (he : e ≠ 0) : False := he (by rw [h] at hok; exact hok)
def rngC (l : List SpI) : Prop := ∀ x ∈ l, (0 ≤ x.1 ∧ x.1 ≤ 1114111) ∧ (0 ≤ x.2.1 ∧ x.2.1 ≤ 1114111)
theorem rng_nil : rngC [] := fun x h => by cases h
theorem rng_snoc {l : List SpI} (h : rngC l) (f : List (List UInt8)) (wr c : Int) : rngC (l ++ [((toldC f wr).1, (toldC f wr).2.1, c)]) := fun x hx => by
  rcases List.mem_append.1 hx with hx | hx
  · exact h x hx
  · obtain rfl := List.mem_singleton.1 hx; exact tc_rng f wr
end Go.FK
end

/- === FKl === -/
section
/- FKl: a strings.Builder of the call's own, carried over the steps of a walk; its methods. My own text, over the kit's shelf. -/
set_option linter.unusedVariables false
set_option linter.unusedSimpArgs false
namespace Go.FK
open Go Go.RowKit
def Bld (T E B b : Nat) (l : List UInt8) (w : World) : Prop := Lib.IsBuilderF T E B b (Lib.byteCells l) w
theorem Bld.at {T E B b : Nat} {l : List UInt8} {w : World} (h : Bld T E B b l w) : B ≤ b ∧ ∃ p v, w.heap[b]? = some (.cells #[p, v] T (0, 0)) := by
  rcases h with ⟨hB, v, hb, _⟩ | ⟨hB, v, hb, _⟩
  · exact ⟨hB, _, v, hb⟩
  · exact ⟨hB, _, v, hb⟩
theorem Bld.of {T E B b : Nat} {w : World} (hb : w.heap[b]? = some (.cells [Value.pointer none, Value.slice none 0 0].toArray T (0, 0))) (hB : B ≤ b) : Bld T E B b [] w := by
  refine .inl ⟨hB, .slice none 0 0, hb, ?_, by simp [Value.ownBlock]⟩
  exact World.ownsRowF_of (World.ownsRow_nil _ _ _ _)
theorem Bld.lt {T E B b : Nat} {l : List UInt8} {w : World} (h : Bld T E B b l w) : b < w.heap.size := by
  obtain ⟨_, p, v, hb⟩ := h.at
  exact yR hb
theorem Bld.cast {T E B b : Nat} {l m : List UInt8} {w : World} (h : Bld T E B b l w) (e : l = m) : Bld T E B b m w := e ▸ h
theorem bldAt_same {T E B b : Nat} {p : Value} {bs : List Value} {w w' : World} (h : Lib.BuilderAtF T E B b p bs w) (hk : ∀ k : Nat, (∃ cs X fz, w.heap[k]? = some (.cells cs X fz) ∧ (X = T ∨ X = E)) → w'.heap[k]? = w.heap[k]?) : Lib.BuilderAtF T E B b p bs w' := by
  obtain ⟨hB, v, hb, hown, hne⟩ := h
  refine ⟨hB, v, (hk b ⟨_, _, _, hb, .inl rfl⟩).trans hb, ⟨hown.1, ?_⟩, hne⟩
  rcases hown.2 with hn | ⟨g, cap, cur, fz, hv, hbg, hg, rest⟩
  · exact .inl hn
  · exact .inr ⟨g, cap, cur, fz, hv, hbg, (hk g ⟨_, _, _, hg, .inr rfl⟩).trans hg, rest⟩
theorem Bld.same {T E B b : Nat} {l : List UInt8} {w w' : World} (h : Bld T E B b l w) (hk : ∀ k : Nat, (∃ cs X fz, w.heap[k]? = some (.cells cs X fz) ∧ (X = T ∨ X = E)) → w'.heap[k]? = w.heap[k]?) : Bld T E B b l w' :=
  h.elim (fun x => .inl (bldAt_same x hk)) (fun x => .inr (bldAt_same x hk))
theorem Bld.below {T E B b : Nat} {l : List UInt8} {w w' : World} (h : Bld T E B b l w) (hb : Below w.heap.size w w') : Bld T E B b l w' :=
  h.same fun k ⟨_, _, _, hk, _⟩ => hb.block k (Array.getElem?_eq_some_iff.1 hk).1
theorem Bld.wrote {T E B b k : Nat} {l : List UInt8} {w w' : World} {o o0 : Obj} (h : Bld T E B b l w) (hW : Wrote w w' k o) (hk : w.heap[k]? = some o0) (ho : ∀ cs X fz, o0 = .cells cs X fz → X ≠ T ∧ X ≠ E) : Bld T E B b l w' :=
  h.same fun j ⟨cs, X, fz, hj, hX⟩ => hW.other j fun e => by
    subst e
    rw [hk] at hj
    have := ho cs X fz (Option.some.inj hj)
    rcases hX with e1 | e1
    · exact this.1 e1
    · exact this.2 e1
theorem Bld.grown {α : Type} {T E B b B' E' k' : Nat} {l : List UInt8} {w w' : World} {enc : α → List Value} {v : Value} {xs : List α} (h : Bld T E B b l w) (hg : w.grownBy w' v.ownBlock) (hr : Row w B' E' k' enc v xs) (h1 : Nat.beq E' T = false) (h2 : Nat.beq E' E = false) : Bld T E B b l w' := by
  refine h.same fun j ⟨cs, X, fz, hj, hX⟩ => ?_
  refine hg.block j (yR hj) fun e => ?_
  rcases hr.2 with ⟨rfl, _⟩ | ⟨g, cap, cur, rfl, _, hh, _⟩
  · simp [Value.ownBlock] at e
  · simp [Value.ownBlock] at e
    subst e
    rw [hh] at hj
    have hj := Option.some.inj hj
    injection hj with _ e2 _
    subst e2
    rcases hX with rfl | rfl
    · simp at h1
    · simp at h2
theorem Bld.obj_kept {T E B b k : Nat} {l : List UInt8} {w w' : World} {o : Obj} (h : Bld T E B b l w) (hO : Lib.OthersKept E (some b) w w') (hk : w.heap[k]? = some o) (ho : ∀ cs X fz, o = .cells cs X fz → X ≠ T ∧ X ≠ E) : w'.heap[k]? = some o := by
  refine hO k o hk (fun e => ?_) (fun cs fz e => ?_)
  · obtain ⟨_, p, v, hb⟩ := h.at
    have e := Option.some.inj e
    subst e
    rw [hb] at hk
    exact (ho _ _ _ (Option.some.inj hk).symm).1 rfl
  · exact (ho _ _ _ e).2 rfl
theorem bldStr {P : Program} {f : FuncId} {T E B b : Nat} (h1 : ∀ (B b : Nat) (l : List UInt8) (w : World), Lib.IsBuilderF T E B b (Lib.byteCells l) w → B ≤ w.heap.size →
      Calls P f #[.pointer (some ⟨b, 0, none⟩)] w fun e w' => e = .returned (.string ⟨l.toArray⟩) ∧ (Lib.IsBuilderF T E B b (Lib.byteCells l) w' ∧ Below B w w' ∧ Lib.OthersKept E (some b) w w'))
    (l : List UInt8) (w : World) (h : Bld T E B b l w) (hB : B ≤ w.heap.size) :
    Calls P f #[.pointer (some ⟨b, 0, none⟩)] w (Ret fun v w' => v = S l ∧ Bld T E B b l w' ∧ Below B w w' ∧ Lib.OthersKept E (some b) w w') := by
  refine (h1 B b l w h hB).mono ?_
  rintro e w' ⟨rfl, h2, h3, h4⟩
  exact ⟨_, rfl, rfl, h2, h3, h4⟩
end Go.FK
end

/- === FKi === -/
section
/- FKi: regions that draw their order, whose operations have guards. My own text. -/
namespace Go.FK
open Go Go.RowKit
section
variable {P : Program} {n : Nat} {Q : Post} {s : Fm} {w : World} {ops : Array Oper} {fuel : Nat} {listed : Array Bool}
end
section
variable {P : Program} {n : Nat} {Q : Post} {s : Fm} {w : World} {ops : Array Oper} {fuel : Nat} {listed : Array Bool}
def noG (o : Oper) : Oper := { o with guard := none }
end
section
variable {P : Program} {n : Nat} {Q : Post} {s : Fm} {w : World} {ops : Array Oper} {fuel : Nat} {listed : Array Bool}
end
section
variable {P : Program} {n : Nat} {Q : Post} {s : Fm} {w : World} {ops : Array Oper} {fuel : Nat} {listed : Array Bool} {C : World → Prop}
theorem wpIn_quiet {o : Oper} {a : Act} {K : Act → Prop} {K' : Act → World → Prop} {Q' : Exit → Act → World → Prop} (hne : ∀ c, o.op ≠ .defer c) (hw : C w) (h : ∀ a w', C w' → K a → K' a w') (hh : o.quiet P a C K) : o.wpIn (Fw none) 0 P a w K' Q' := by
  obtain ⟨v, h1, h2⟩ := hh
  have h3 := h1 w hw
  unfold Oper.quietAt at h3
  unfold Oper.wpIn
  refine ⟨fun _ _ => trivial, ?_⟩
  rw [Oper.semAt_eq _ _ _ hne]
  generalize (execOp a.eval o).run P w = r at *
  cases r with
  | ok m w' =>
    cases m <;> simp only [Oper.quietUpon] at h3 <;> simp only [Oper.uponIn]
    case value u =>
      obtain ⟨e1, e2⟩ := h3
      rw [e1, e2]
      exact h _ _ hw h2
    case skip =>
      obtain ⟨e1, e2⟩ := h3
      rw [e1, ← e2]
      exact h _ _ hw h2
    case enter f args =>
      obtain ⟨e1, hc⟩ := h3
      rw [e1]
      exact ⟨fun hx => by simp [Fw] at hx, CallsIn.mono (calls_fw.2 hc) fun e w'' ⟨he, hw''⟩ => by subst he; exact h _ _ hw'' h2⟩
  | halt x w' => simp only [Oper.quietUpon] at h3
theorem opIn_quiet {i : Nat} {a : Act} {K : Act → Prop} {K' : Act → World → Prop} {Q' : Exit → Act → World → Prop} (hd : noDefers ops = true) (hC : C w) (h : ∀ a w', C w' → K a → K' a w') (hh : qOp P ops C i K a) : wpOpIn (Fw none) 0 P ops Q' i K' a w := by
  unfold qOp at hh
  unfold wpOpIn
  cases ho : ops[i]? with
  | none => simp only [ho] at hh ⊢; exact h _ _ hC hh
  | some o =>
    simp only [ho] at hh ⊢
    have hne : ∀ c, o.op ≠ .defer c := notDefer_ne (List.all_eq_true.1 hd o (by
      have := Array.mem_of_getElem? ho
      simpa using this))
    split
    · rename_i hw; rw [if_pos hw] at hh; exact wpIn_quiet hne hC h hh
    · rename_i hw; rw [if_neg hw] at hh; exact ⟨fun _ _ => trivial, h _ _ hC hh⟩
end
section ops
variable {r : Option Nat} {P : Program} {n : Nat} {Q : Post} {s : Fm} {w : World} {ops : Array Oper} {rest : List Oper}
variable {d : Option Tmp} {ty : TypeId} {pos : String} {af : Array Edge}
end ops
end Go.FK
end

/- === FKab === -/
section
/- FKab: what the writing methods of strings.Builder do to memory: the pieces of their walks. My own text. -/
set_option linter.unusedVariables false
set_option linter.unusedSimpArgs false
namespace Go.FK
open Go Go.RowKit
theorem Rd.one {α : Type} {w : World} {enc : α → List Value} {v : Value} {xs : List α} (h : Rd w enc v xs) : v.oneCell' = true := by
  obtain ⟨a, c, rfl, _⟩ := h; rfl
section
variable {T E B b : Nat} {l m : List UInt8} {w w1 w2 w3 : World} {p v v2 : Value}
theorem byteCells_len (l : List UInt8) : (Lib.byteCells l).length = l.length := by simp [Lib.byteCells]
end
section ops
variable {r : Option Nat} {P : Program} {n : Nat} {Q : Post} {s : Fm} {w : World} {ops : Array Oper} {rest : List Oper}
variable {d : Option Tmp} {ty : TypeId} {pos : String} {af : Array Edge} {T U E B : Nat} {l : List UInt8} {v : Value}
theorem info_u8 (hi : (P.info? E).map (fun i => (i.zero, i.size, i.bytes)) = some (some (.int .u8 0), 1, 1)) : ∃ i, P.info? E = some i ∧ i.zero = some (.int .u8 0) ∧ i.size = 1 ∧ i.bytes = 1 := by
  cases hq : P.info? E with
  | none => rw [hq] at hi; cases hi
  | some i =>
    rw [hq] at hi
    simp only [Option.map_some, Option.some.injEq, Prod.mk.injEq] at hi
    exact ⟨i, rfl, hi.1, hi.2.1, hi.2.2⟩
theorem L_toUns {src dst t : TypeId} {X : Operand} {k : Nat} {e : TypeId} {cs : List Value} (b : Nat) (hs : P.underlying src = some (.pointer t)) (hd : P.underlying dst = some .unsafePointer) (hi : (P.info? t).map (·.size) = some k) (hk : Nat.beq k 0 = false)
    (ho : w.heap[b]? = some (.cells cs.toArray e (0, 0))) (hc : Nat.blt 0 cs.length = true) (hX : s.ev n X = .pointer (some ⟨b, 0, none⟩)) (h : L r P n ops Q rest (s.put d (.pointer (some ⟨b, 0, none⟩))) w) :
    L r P n ops Q (⟨d, .convert src dst X, ty, pos, af, none⟩ :: rest) s w := by
  obtain ⟨j, hj, hjs⟩ := Option.map_eq_some_iff.1 hi
  have hsh : w.shape? b = some (e, cs.length) := by simp [World.shape?, ho]
  refine xR _ w (by simp) ?_ h
  simp only [execOp, hX, Sem.run_bind, Lib.run_to_unsafe (P := P) (w := w) ⟨b, 0, none⟩ hs hd hj (by rw [hjs]; intro e; subst e; simp at hk) hsh (by simpa using hc), Result.andThen_ok, Sem.run_pure]
theorem L_fromUns {src dst t : TypeId} {X : Operand} {k : Nat} {e : TypeId} {cs : List Value} (b : Nat) (hs : P.underlying src = some .unsafePointer) (hd : P.underlying dst = some (.pointer t)) (hi : (P.info? t).map (·.size) = some k)
    (ho : w.heap[b]? = some (.cells cs.toArray e (0, 0))) (hl : liesAt P P.depth e (cs.length / P.cellsOf e) 0 t 1 = true) (hX : s.ev n X = .pointer (some ⟨b, 0, none⟩)) (h : L r P n ops Q rest (s.put d (.pointer (some ⟨b, 0, none⟩))) w) :
    L r P n ops Q (⟨d, .convert src dst X, ty, pos, af, none⟩ :: rest) s w := by
  obtain ⟨j, hj, hjs⟩ := Option.map_eq_some_iff.1 hi
  have hsh : w.shape? b = some (e, cs.length) := by simp [World.shape?, ho]
  refine xR _ w (by simp) ?_ h
  simp only [execOp, hX, Sem.run_bind, Lib.run_from_unsafe (P := P) (w := w) ⟨b, 0, none⟩ hs hd hj hsh hl, Result.andThen_ok, Sem.run_pure]
theorem L_pneF {tp te yt : TypeId} {X Y : Operand} {k : Nat} (b : Nat) (hp : P.underlying tp = some (.pointer te)) (hi : (P.info? te).map (·.size) = some k) (hX : s.ev n X = .pointer (some ⟨b, 0, none⟩)) (hY : s.ev n Y = .pointer (some ⟨b, 0, none⟩))
    (hg : (eqGuard .neq tp X Y (.pointer (some ⟨b, 0, none⟩)) (.pointer (some ⟨b, 0, none⟩))).run P w = .ok () w) (h : L r P n ops Q rest (s.put d (.bool false)) w) : L r P n ops Q (⟨d, .binOp .neq tp X Y yt, ty, pos, af, none⟩ :: rest) s w := by
  obtain ⟨j, hj, _⟩ := Option.map_eq_some_iff.1 hi
  exact L_bin _ _ (.bool false) hX hY hg (Lib.run_neq_ptr_same w ⟨b, 0, none⟩ hp hj) h
end ops
end Go.FK
end

/- === FKak === -/
section
/- FKak: a strings.Builder as a struct with a row of bytes of its own: it may be written in rounds of ranges too. My own text. -/
set_option linter.unusedVariables false
set_option linter.unusedSimpArgs false
namespace Go.FK
open Go Go.RowKit
def encByt (c : UInt8) : List Value := [.int .u8 ((c.toNat : Nat) : Int)]
theorem byt_cells (l : List UInt8) : l.flatMap encByt = Lib.strCells ⟨l.toArray⟩ := by
  show l.flatMap encByt = l.map fun b => Value.int .u8 b.toNat
  induction l with
  | nil => rfl
  | cons c l ih => rw [List.flatMap_cons, ih]; rfl
theorem byt_byte (l : List UInt8) : l.flatMap encByt = Lib.byteCells l := by
  induction l with
  | nil => rfl
  | cons c l ih => rw [List.flatMap_cons, ih]; rfl
section ops
variable {r : Option Nat} {P : Program} {n : Nat} {Q : Post} {s : Fm} {w : World} {ops : Array Oper} {rest : List Oper}
variable {d : Option Tmp} {ty : TypeId} {pos : String} {af : Array Edge} {T U E B : Nat} {l : List UInt8} {v : Value}
theorem L_appStrR {A X : Operand} (x : List UInt8) (ht : P.underlying T = some (.slice E)) (hu : P.underlying U = some .string) (hi : (P.info? E).map (fun i => (i.zero, i.size, i.bytes)) = some (some (.int .u8 0), 1, 1))
    (hrow : Row w B E 1 encByt v l) (hl : l.length ≤ 1073741824) (hx : x.length ≤ 1073741824) (hB : B ≤ w.heap.size) (hA : s.ev n A = v) (hX : s.ev n X = S x)
    (h : ∀ v' w', Row w' B E 1 encByt v' (l ++ x) → w.grownBy w' v.ownBlock → (v'.ownBlock = v.ownBlock ∨ v'.ownBlock = some w.heap.size) → L r P n ops Q rest (s.put d v') w') :
    L r P n ops Q (⟨d, .call ⟨.builtin .append, #[A, X], #[T, U]⟩, ty, pos, af, none⟩ :: rest) s w := by
  obtain ⟨i, hq, hz, hs1, hb1⟩ := info_u8 hi
  have hsz : (⟨x.toArray⟩ : ByteArray).size = x.length := by show x.toArray.size = _; simp
  have hown : w.ownsRow B E 1 v l.length (l.flatMap encByt) := hrow
  obtain ⟨v', w', hrun, hown', hg, hnil⟩ := Lib.run_append_own_string (P := P) w B T U ty E i ht hu hq hz hs1 hb1 v l.length (l.flatMap encByt) hown ⟨x.toArray⟩ (by rw [hsz]; unfold maxLen; omega) (by rw [hsz]; omega) hB
  have how : v'.ownBlock = v.ownBlock ∨ v'.ownBlock = some w.heap.size := by
    rcases hown.2 with ⟨rfl, _⟩ | ⟨g, cap, cur, rfl, _, hh, hnc, _, hcs, _⟩
    · by_cases h0 : (⟨x.toArray⟩ : ByteArray).size = 0
      · rw [hnil.2 ⟨rfl, h0⟩]; exact .inl rfl
      · have hr := run_append_nil_string (P := P) w T U ty E i (.int .u8 0) ht hu hq hz ⟨x.toArray⟩ (by omega) (by rw [hsz]; omega) (by rw [hsz, hb1]; omega)
        rw [hr] at hrun; injection hrun with e1 _; rw [← e1]; exact .inr rfl
    · by_cases hroom : l.length + (⟨x.toArray⟩ : ByteArray).size ≤ cap
      · have hr := Lib.run_append_room_string (P := P) w T U ty E i ht hu hq hs1 g l.length cap cur hh ⟨x.toArray⟩ hroom (by omega)
        rw [hr] at hrun; injection hrun with e1 _; rw [← e1]; exact .inl rfl
      · have hr := Lib.run_append_grow_string (P := P) w T U ty E i (.int .u8 0) ht hu hq hz ⟨g, 0, none⟩ l.length cap (l.flatMap encByt) (by rw [hs1]; exact hown.1) (hown.cells (g := g) rfl) ⟨x.toArray⟩ (by omega) (by rw [hsz]; omega) (by rw [hb1]; exact growslice_fits (by omega) (by omega))
        rw [hr] at hrun; injection hrun with e1 _; rw [← e1]; exact .inr rfl
  refine xR v' w' (by simp) ?_ (h v' w' ?_ hg how)
  · have hX' : s.ev n X = .string ⟨x.toArray⟩ := hX
    simp only [execOp, resolve, invoke, builtin, Sem.run_bind, Sem.run_pure, Result.andThen_ok, List.map_toArray, List.map_cons, List.map_nil, hA, hX', hrun]
  · rw [hsz] at hown'
    show w'.ownsRow B E 1 v' (l ++ x).length ((l ++ x).flatMap encByt)
    rw [List.length_append, List.flatMap_append, byt_cells x]
    exact hown'
end ops
section
variable {T E B b : Nat} {l : List UInt8} {w w1 : World} {p v : Value}
theorem copy2 (hcc : (w1 = w ∧ p = .pointer (some ⟨b, 0, none⟩)) ∨ Wrote w w1 b (.cells [.pointer (some ⟨b, 0, none⟩), v].toArray T (0, 0)))
    (ho : w.heap[b]? = some (.cells [p, v].toArray T (0, 0))) : w1.heap[b]? = some (.cells [.pointer (some ⟨b, 0, none⟩), v].toArray T (0, 0)) ∧ Ch (fun k => k = b) w w1 := by
  rcases hcc with ⟨rfl, rfl⟩ | hW
  · exact ⟨ho, Ch.refl _ _⟩
  · exact ⟨hW.here, Ch.of_wrote hW⟩
theorem Bld.ofRow (hp : p = .pointer none ∨ p = .pointer (some ⟨b, 0, none⟩)) (ho : w.heap[b]? = some (.cells [p, v].toArray T (0, 0))) (hr : Row w B E 1 encByt v l) (hB : B ≤ b) (hne : v.ownBlock ≠ some b) : Bld T E B b l w := by
  have hown : w.ownsRowF B E 1 v (Lib.byteCells l).length (Lib.byteCells l) := by
    have h : w.ownsRow B E 1 v l.length (l.flatMap encByt) := hr
    rw [byt_byte] at h
    rw [byteCells_len]
    exact World.ownsRowF_of h
  rcases hp with rfl | rfl
  · exact .inl ⟨hB, v, ho, hown, hne⟩
  · exact .inr ⟨hB, v, ho, hown, hne⟩
end
end Go.FK
end

/- === PCl2 === -/
section
/- PCl2: what a table of classes writes and tells; its classes are classes. My own text. -/
set_option linter.unusedVariables false
namespace Go.FK
open Go Go.RowKit
theorem showSpan_len (lo hi : Int) : (showSpanF lo hi).1.length ≤ 14 := by
  have h1 := showF_len lo
  have h2 := showF_len hi
  unfold showSpanF
  split
  · simp
  · split
    · simp only; omega
    · simp only [List.length_append, List.length_cons, List.length_nil]; omega
def missW : List UInt8 := [35, 32, 64, 109, 105, 115, 115, 105, 110, 103, 58, 32]
def mlC (x : SpI) : List UInt8 := (((missW ++ (showSpanF x.1 x.2.1).1) ++ [59, 32]) ++ longS x.2.2) ++ [10]
def nlC (x : SpI) : List UInt8 := ((((([] : List UInt8) ++ (showSpanF x.1 x.2.1).1) ++ [59, 32]) ++ shortS x.2.2)) ++ [10]
def writeC (mm am : List SpI) : List UInt8 := mm.flatMap mlC ++ am.flatMap nlC
theorem wr_miss {mm : List SpI} {i : Nat} {x : SpI} {acc : List UInt8} (h : acc = (mm.take i).flatMap mlC) (hx : mm[i]? = some x) : acc ++ ((((missW ++ (showSpanF x.1 x.2.1).1) ++ [59, 32]) ++ longS x.2.2) ++ [10]) = (mm.take (i + 1)).flatMap mlC := by
  rw [← tk_snoc hx, List.flatMap_append, h]; simp [mlC]
theorem wr_half {mm : List SpI} {i : Nat} {acc : List UInt8} (h : acc = (mm.take i).flatMap mlC) (hi : mm.length ≤ i) : acc = mm.flatMap mlC ++ (([] : List SpI)).flatMap nlC := by
  rw [h, List.take_of_length_le hi]; simp
theorem wr_name {mm pre : List SpI} {x : SpI} {acc : List UInt8} (h : acc = mm.flatMap mlC ++ pre.flatMap nlC) : acc ++ (((([] ++ (showSpanF x.1 x.2.1).1) ++ [59, 32]) ++ shortS x.2.2) ++ [10]) = mm.flatMap mlC ++ (pre ++ [x]).flatMap nlC := by
  rw [h, List.flatMap_append]; simp [nlC]
theorem ml_len (x : SpI) : (mlC x).length ≤ 60 := by
  have h1 := showSpan_len x.1 x.2.1
  have h2 := longS_len x.2.2
  simp only [mlC, missW, List.length_append, List.length_cons, List.length_nil]; omega
theorem nl_len (x : SpI) : (nlC x).length ≤ 60 := by
  have h1 := showSpan_len x.1 x.2.1
  have h2 := shortS_len x.2.2
  simp only [nlC, List.length_append, List.length_cons, List.length_nil]; omega
theorem flat_le {f : SpI → List UInt8} (hf : ∀ x, (f x).length ≤ 60) : ∀ l : List SpI, (l.flatMap f).length ≤ 60 * l.length
  | [] => Nat.le_refl _
  | x :: l => by
    have := flat_le hf l; have := hf x
    rw [List.flatMap_cons, List.length_append, List.length_cons]; omega
theorem mm_len (l : List SpI) : (l.flatMap mlC).length ≤ 60 * l.length := flat_le ml_len l
theorem am_len (l : List SpI) : (l.flatMap nlC).length ≤ 60 * l.length := flat_le nl_len l
theorem write_lenC (mm am : List SpI) : (writeC mm am).length ≤ 60 * mm.length + 60 * am.length := by
  have := mm_len mm; have := am_len am
  unfold writeC; rw [List.length_append]; omega
theorem mi_len {mm : List SpI} {i : Nat} {acc : List UInt8} (h : acc = (mm.take i).flatMap mlC) : acc.length ≤ 60 * mm.length := by
  have h1 := mm_len (mm.take i)
  have h2 : (mm.take i).length ≤ mm.length := by rw [List.length_take]; omega
  rw [h]; omega
theorem na_len {mm pre : List SpI} {acc : List UInt8} (h : acc = mm.flatMap mlC ++ pre.flatMap nlC) : acc.length ≤ 60 * mm.length + 60 * pre.length := by
  rw [h]; exact write_lenC mm pre
def fewC {α : Type} (l : List α) (few : Int) : List α := if 0 ≤ few then l.take (few.toNat + 1) else l
section
variable {α : Type} {l pre acc a : List α} {few : Int} {x y : α} {i n : Nat}
theorem few_all (h : few < 0 ∨ (l.length : Int) ≤ few) : l = fewC l few := by
  unfold fewC; split
  · rw [List.take_of_length_le (by omega)]
  · rfl
theorem few_stop (hp : pre <+: l) (h0 : 0 ≤ few) (h : (pre.length : Int) = few + 1) : pre = fewC l few := by
  unfold fewC; rw [if_pos h0]
  obtain ⟨t, rfl⟩ := hp
  rw [show few.toNat + 1 = pre.length by omega, List.take_left]
theorem few_len (l : List α) (few : Int) : (fewC l few).length ≤ l.length := by
  unfold fewC; split
  · rw [List.length_take]; omega
  · exact Nat.le_refl _
theorem few_neg (l : List α) (h : few < 0) : fewC l few = l := by unfold fewC; rw [if_neg (by omega)]
theorem few_n (l : List α) (few : Int) : ((fewC l few).length : Int) = if 0 ≤ few ∧ few < (l.length : Int) - 1 then few + 1 else l.length := by
  unfold fewC
  split
  · rw [List.length_take]; split <;> omega
  · rw [if_neg (by omega)]
theorem few_at (l : List α) (few : Int) (hi : i < (fewC l few).length) : (fewC l few)[i]? = l[i]? := by
  unfold fewC at *
  split
  · rename_i h; rw [if_pos h] at hi; rw [List.length_take] at hi; rw [List.getElem?_take_of_lt (by omega)]
  · rfl
end
section
variable {a l : List SpI} {few n : Int} {i : Nat} {x y : SpI}
theorem same_len (hn : ((fewC l few).length : Int) = n) (h : (a.length : Int) ≠ n) : ¬ a = fewC l few := fun e => h (by rw [e]; exact hn)
theorem same_no (hn : ((fewC l few).length : Int) = n) (hi : (i : Int) < n) (hx : a[i]? = some x) (hy : l[i]? = some y) (e : x ≠ y) : ¬ a = fewC l few := fun h => by
  have h1 := few_at l few (i := i) (by omega)
  rw [← h, hx, hy] at h1
  exact e (Option.some.inj h1)
theorem same_step (hn : ((fewC l few).length : Int) = n) (h : a.take i = (fewC l few).take i) (hi : (i : Int) < n) (hx : a[i]? = some x) (hy : l[i]? = some y) (e : x = y) : a.take (i + 1) = (fewC l few).take (i + 1) := by
  have h1 := few_at l few (i := i) (by omega)
  rw [hy, ← e] at h1
  exact tk_same h hx h1 rfl
theorem same_end (hn : ((fewC l few).length : Int) = n) (h : a.take i = (fewC l few).take i) (hl : (a.length : Int) = n) (hi : n ≤ i) : a = fewC l few := tk_all h (by omega) (by omega)
theorem sp_ne {x y : SpI} (h : (x.1 == y.1 && x.2.1 == y.2.1 && x.2.2 == y.2.2) = false) : x ≠ y := fun e => by subst e; simp at h
theorem sp_eq {x y : SpI} (h : x.1 = y.1 ∧ x.2.1 = y.2.1 ∧ x.2.2 = y.2.2) : x = y := sp_ext h.1 h.2.1 h.2.2
end
def clsB (l : List SpI) : Prop := ∀ x ∈ l, 1 ≤ x.2.2 ∧ x.2.2 ≤ 23
theorem clsB_nil : clsB [] := fun x h => by cases h
theorem clsB_lay {l : List SpI} {lo hi v : Int} (h : clsB l) (hr : RiseG 0 l) (hv : 1 ≤ v ∧ v ≤ 23) : clsB (layF eqI l lo hi v) := fun s hs => by
  cases hm : mayG lo hi with
  | false => unfold layF at hs; rw [if_pos hm] at hs; exact h s hs
  | true =>
    have hr2 : RiseG 0 (layF eqI l lo hi v) := layF_rise hr
    have h0 := hr2.mem s hs
    have h1 := mem_val hr2 hs (x := s.1) ⟨Int.le_refl _, h0.2.1⟩
    rw [layF_val eqI_law hr hm] at h1
    split at h1
    · cases h1; exact hv
    · unfold valG at h1
      rw [Option.map_eq_some_iff] at h1
      obtain ⟨y, hy, e⟩ := h1
      have := h y (List.mem_of_find?_eq_some hy)
      rw [e] at this; exact this
theorem clsB_put {l : List SpI} {lo hi v : Int} (h : clsB l) (hr : RiseG 0 l) (hv : 1 ≤ v ∧ v ≤ 23) : clsB (putF eqI l lo hi v) := by
  cases hm : mayG lo hi with
  | false => unfold putF; rw [if_pos hm]; exact h
  | true =>
    unfold putF; rw [if_neg (by rw [hm]; decide)]
    split
    · exact h
    · have := clsB_lay (lo := lo) (hi := hi) h hr hv
      unfold layF at this; rw [if_neg (by rw [hm]; decide)] at this; exact this
theorem classN_rng (name : List UInt8) : ∀ (n : Nat) (c : Int), 1 ≤ c → (classN name n c).2 = 0 → 1 ≤ (classN name n c).1 ∧ (classN name n c).1 ≤ 23
  | 0, c, hc, h => by simp [classN] at h
  | n + 1, c, hc, h => by
    unfold classN at h ⊢
    by_cases h23 : c ≤ 23
    · rw [if_pos h23] at h ⊢
      by_cases h1 : alikeB name (shortS c) = true
      · rw [if_pos h1]; exact ⟨hc, h23⟩
      · rw [if_neg h1] at h ⊢
        by_cases h2 : alikeB name (longS c) = true
        · rw [if_pos h2]; exact ⟨hc, h23⟩
        · rw [if_neg h2] at h ⊢
          exact classN_rng name n (c + 1) (by omega) h
    · rw [if_neg h23] at h; exact absurd h (by decide)
theorem class_rng {name : List UInt8} (h : (classF name).2 = 0) : 1 ≤ (classF name).1 ∧ (classF name).1 ≤ 23 := classN_rng name _ 1 (by omega) h
theorem told_cls {f : List (List UInt8)} {wr : Int} (hw : wr ≠ 0) (h : (toldC f wr).2.2.2 = 0) : 1 ≤ (toldC f wr).2.2.1 ∧ (toldC f wr).2.2.1 ≤ 23 := by
  unfold toldC at *
  split at h
  · exact absurd h hw
  · rename_i h1
    rw [if_neg h1]
    split at h
    · rename_i h2; exact absurd h h2
    · rename_i h2; rw [if_neg h2]; exact class_rng h
theorem step_cls (t : TabC) (x : LineD) (h1 : MapOk eqI t.1) (h : clsB t.1 ∧ clsB t.2.2) : clsB (stepL t x).1.1 ∧ clsB (stepL t x).1.2.2 := by
  unfold stepL stepC
  repeat' split
  all_goals try exact h
  · rename_i h2 h3 h4
    exact ⟨clsB_put h.1 h1.rise (told_cls (by decide) (by simpa using h3)), h.2⟩
  · rename_i h2 h3 h4 h5
    refine ⟨h.1, fun y hy => ?_⟩
    rcases List.mem_append.1 hy with hy | hy
    · exact h.2 y hy
    · obtain rfl := List.mem_singleton.1 hy
      exact told_cls (by decide) (by simpa using h5)
theorem go_cls : ∀ (l : List LineD) (t : TabC), MapOk eqI t.1 → MapOk eqI t.2.1 → clsB t.1 ∧ clsB t.2.2 → clsB (goC t l).1.1 ∧ clsB (goC t l).1.2.2
  | [], t, _, _, h => h
  | x :: l, t, h1, h2, h => by
    unfold goC
    split
    · exact h
    · have h3 := step_ok t x h1 h2
      exact go_cls l _ h3.1 h3.2.1 (step_cls t x h1 h)
theorem cls_cls (s : List UInt8) : clsB (clsF s).1.1 ∧ clsB (clsF s).1.2.2 := by
  unfold clsF
  split
  · exact ⟨clsB_nil, clsB_nil⟩
  · exact go_cls _ _ MapOk.nil MapOk.nil ⟨clsB_nil, clsB_nil⟩
end Go.FK
end

/- === POne === -/
section
/- POne: ranges put one by one, and those that were taken laid the other way round: the same map. My own text. -/
set_option linter.unusedVariables false
namespace Go.FK
open Go Go.RowKit
abbrev Rg := Int × Int
def encRg (x : Rg) : List Value := [.int .i32 x.1, .int .i32 x.2]
def valA (val : List Bool) (k : Int) : Bool := val.getD k.toNat false
def tookIn (l : List Rg) (x k : Int) : Bool := match l[k.toNat]? with | some r => decide (r.1 ≤ x ∧ x ≤ r.2) | none => false
def valT (l : List Rg) (val : List Bool) (T : List Int) (x : Int) : Option Bool := (T.find? (tookIn l x)).map (valA val)
structure OneI (l : List Rg) (val : List Bool) (i : Nat) (A : List SpB) (T : List Int) : Prop where
  ok : MapOk eqB A
  may : ∀ k ∈ T, 0 ≤ k ∧ k < i ∧ ∃ r, l[k.toNat]? = some r ∧ mayG r.1 r.2 = true
  same : ∀ x, valG A x = valT l val T x
section
variable {l : List Rg} {val : List Bool} {i : Nat} {A B : List SpB} {T : List Int} {r : Rg} {b : Bool}
theorem putE_ok {V : Type} {xs : List (SpG V)} {lo hi : Int} (h : putE xs lo hi = 0) : mayG lo hi = true ∧ metG xs lo hi = none := by
  unfold putE at h
  split at h
  · exact absurd h (by decide)
  · next h1 =>
    split at h
    · exact absurd h (by decide)
    · next h2 => exact ⟨by simpa using h1, by simpa using h2⟩
theorem putF_ok {V : Type} {eq : V → V → Bool} {xs : List (SpG V)} {lo hi : Int} {v : V} (h : putE xs lo hi = 0) : putF eq xs lo hi v = layG eq xs lo hi v := by
  have h1 := putE_ok h
  unfold putF
  rw [if_neg (by rw [h1.1]; decide), if_neg (by rw [h1.2]; simp)]
structure TwoI (l : List Rg) (val : List Bool) (T : List Int) (j : Nat) (B : List SpB) : Prop where
  ok : MapOk eqB B
  same : ∀ x, valG B x = valT l val (T.drop j) x
end
theorem at_first {V : Type} {z : V} {xs : List (SpG V)} (hr : RiseG 0 xs) {i : Nat} {s : SpG V} (hs : xs[i]? = some s) : atM z xs s.1 = (s.2.2, true) := by
  have h := hr.at hs
  unfold atM
  rw [if_pos (by simp [inR]; omega), mem_val hr (List.mem_of_getElem? hs) ⟨Int.le_refl _, h.2.1⟩]; rfl
theorem at_last {V : Type} {z : V} {xs : List (SpG V)} (hr : RiseG 0 xs) {i : Nat} {s : SpG V} (hs : xs[i]? = some s) : atM z xs s.2.1 = (s.2.2, true) := by
  have h := hr.at hs
  unfold atM
  rw [if_pos (by simp [inR]; omega), mem_val hr (List.mem_of_getElem? hs) ⟨h.2.1, Int.le_refl _⟩]; rfl
def rgs {V : Type} (xs : List (SpG V)) : List Rg := xs.map fun s => (s.1, s.2.1)
end Go.FK
end

/- === PCl3 === -/
section
/- PCl3: the table covers each code point once; what is named has its class and its line. My own text. -/
set_option linter.unusedVariables false
namespace Go.FK
open Go Go.RowKit
def fullC (l : List SpI) : Prop := ∀ x : Int, 0 ≤ x → x ≤ 1114111 → (valG l x).isSome = true
theorem whole_named (s : List UInt8) {x v : Int} (h : valG (clsF s).1.1 x = some v) : valG (wholeF (clsF s).1) x = some v := by
  have h0 := layL_ok (clsF s).1.2.2 _ (MapOk.nil.lay eqI_law 0 1114111 1)
  unfold wholeF
  rw [(layAll_ok eqI_law (cls_ok s).1.rise h0).2, h]; rfl
def tabI (t : TabC) : Prop := ∀ x, (valG t.2.1 x).isSome = (valG t.1 x).isSome ∧ ∀ v, valG t.2.1 x = some v → 1 ≤ v
theorem scan_no1 {no : Int} {s : List UInt8} (h : (scanF no s).1.2.1 = 1) : (scanF no s).1.1 = no := by
  unfold scanF at *
  repeat' split at h
  all_goals first | rfl | (exfalso; revert h; decide) | skip
  all_goals simp_all [zeroL]
theorem put_valI {t : List SpI} {lo hi v x : Int} (hr : RiseG 0 t) (h : putE t lo hi = 0) : valG (putF eqI t lo hi v) x = if lo ≤ x ∧ x ≤ hi then some v else valG t x := by
  rw [putF_ok h, layG_val eqI_law hr (putE_ok h).1]
theorem step_tab (t : TabC) (x : LineD) (h1 : MapOk eqI t.1) (h2 : MapOk eqI t.2.1) (hn : x.2.1 = 1 → 1 ≤ x.1) (h : tabI t) (h0 : (stepL t x).2 = 0) : tabI (stepL t x).1 := by
  unfold stepL stepC at *
  split at h0
  · rename_i hk
    rw [if_pos hk]
    split at h0
    · rename_i h3; exact absurd h0 h3
    · rename_i h3
      rw [if_neg h3]
      split at h0
      · rename_i h4; exact absurd h0 h4
      · rename_i h4
        rw [if_neg h4]
        have h4' : putE t.2.1 (toldC x.2.2.2.1 70).1 (toldC x.2.2.2.1 70).2.1 = 0 := by omega
        intro y
        show (valG (putF eqI t.2.1 _ _ _) y).isSome = (valG (putF eqI t.1 _ _ _) y).isSome ∧ ∀ v, valG (putF eqI t.2.1 _ _ _) y = some v → 1 ≤ v
        rw [put_valI h2.rise h4', put_valI h1.rise h0]
        split
        · exact ⟨rfl, fun v hv => by cases hv; exact hn hk⟩
        · exact h y
  · rename_i hk
    rw [if_neg hk]
    split at h0
    · exact absurd h0 (by show ¬ (33 : Int) = 0; decide)
    · rename_i h3
      rw [if_neg h3]
      split at h0
      · rename_i h4
        rw [if_pos h4]
        split at h0
        · rename_i h5; exact absurd h0 h5
        · rename_i h5; rw [if_neg h5]; exact h
      · rename_i h4; rw [if_neg h4]; exact h
theorem go_tab : ∀ (l : List LineD) (t : TabC), MapOk eqI t.1 → MapOk eqI t.2.1 → (∀ x ∈ l, x.2.1 = 1 → 1 ≤ x.1) → tabI t → tabI (goC t l).1
  | [], t, _, _, _, h => h
  | x :: l, t, h1, h2, hl, h => by
    unfold goC
    split
    · exact h
    · rename_i h0
      have h3 := step_ok t x h1 h2
      exact go_tab l _ h3.1 h3.2.1 (fun y hy => hl y (List.mem_cons_of_mem _ hy)) (step_tab t x h1 h2 (hl x List.mem_cons_self) h (by omega))
theorem toldL_no (s : List UInt8) : ∀ (l : List (Int × Int × Int)) (k : Nat), ∀ y ∈ toldL s k l, 1 ≤ y.1
  | [], k, y, h => by cases h
  | p :: l, k, y, h => by
    rw [toldL] at h
    split at h
    · cases h
    · rcases List.mem_cons.1 h with rfl | h
      · show (1 : Int) ≤ ((k + 1 : Nat) : Int); omega
      · exact toldL_no s l (k + 1) y h
theorem tab_nil : tabI ([], [], []) := fun x => ⟨rfl, fun v h => by cases h⟩
theorem cls_tab (s : List UInt8) : tabI (clsF s).1 := by
  unfold clsF
  split
  · exact tab_nil
  · refine go_tab _ _ MapOk.nil MapOk.nil (fun x hx hk => ?_) tab_nil
    unfold linesF at hx
    obtain ⟨y, hy, rfl⟩ := List.mem_map.1 hx
    rw [scan_no1 hk]
    exact toldL_no s _ 0 y hy
def wI (W : List SpI) (i : Nat) (at_ last : Int) : Prop := (i = 0 ∧ at_ = 0 ∧ last = 0) ∨ ∃ y, 0 < i ∧ W[i - 1]? = some y ∧ at_ = y.2.1 + 1 ∧ last = y.2.2
section
variable {W : List SpI} {i : Nat} {at_ last : Int} {x : SpI}
end
theorem at_in {l : List SpI} {x v : Int} (h : valG l x = some v) (h0 : 0 ≤ x) (h1 : x ≤ 1114111) : atM 0 l (plainF x) = (v, true) := by
  rw [← plain_n h0 h1]
  unfold atM
  rw [if_pos (by simp [inR]; omega), h]; rfl
theorem wh_lo {W : List SpI} (hr : RiseG 0 W) {i : Nat} {x : SpI} (hx : W[i]? = some x) : atM 0 W (plainF x.1) = (x.2.2, true) := by
  have := hr.at hx
  rw [← plain_n (by omega) (by omega)]; exact at_first hr hx
theorem wh_hi {W : List SpI} (hr : RiseG 0 W) {i : Nat} {x : SpI} (hx : W[i]? = some x) : atM 0 W (plainF x.2.1) = (x.2.2, true) := by
  have := hr.at hx
  rw [← plain_n (by omega) (by omega)]; exact at_last hr hx
theorem nm_cls {s : List UInt8} {i : Nat} {x : SpI} (hx : (clsF s).1.1[i]? = some x) : atM 0 (wholeF (clsF s).1) (plainF x.1) = (x.2.2, true) := by
  have h := (cls_ok s).1.rise
  have h1 := h.at hx
  exact at_in (whole_named s (mem_val h (List.mem_of_getElem? hx) ⟨Int.le_refl _, h1.2.1⟩)) (by omega) (by omega)
theorem nm_line {s : List UInt8} {i : Nat} {x : SpI} (hx : (clsF s).1.1[i]? = some x) : 1 ≤ (atM 0 (clsF s).1.2.1 (plainF x.2.1)).1 := by
  have h := (cls_ok s).1.rise
  have h1 := h.at hx
  have h2 := mem_val h (List.mem_of_getElem? hx) (x := x.2.1) ⟨h1.2.1, Int.le_refl _⟩
  have h3 := cls_tab s x.2.1
  rw [h2] at h3
  cases hv : valG (clsF s).1.2.1 x.2.1 with
  | none => rw [hv] at h3; exact absurd h3.1 (by simp)
  | some n => rw [at_in hv (by omega) (by omega)]; exact h3.2 n hv
theorem few1 {α : Type} (l : List α) : fewC l (-1) = l := few_neg l (by decide)
section
variable {s : List UInt8} {i : Nat} {a l : Int} {x : SpI}
theorem nA (hx : (fewC (clsF s).1.1 (-1))[i]? = some x) : atM 0 (clsF s).1.1 (plainF x.1) = (x.2.2, true) ∧ atM 0 (clsF s).1.1 (plainF x.2.1) = (x.2.2, true) ∧ (atM 0 (wholeF (clsF s).1) (plainF x.1)).1 = x.2.2 ∧ 1 ≤ (atM 0 (clsF s).1.2.1 (plainF x.2.1)).1 := by
  rw [few1] at hx
  have hr := (cls_ok s).1.rise
  exact ⟨wh_lo hr hx, wh_hi hr hx, by rw [nm_cls hx], nm_line hx⟩
end
end Go.FK
end

/- === PCl4 === -/
section
/- PCl4: the same lines, further down, and missing lines ahead: the same table but for the lines' numbers. My own text. -/
set_option linter.unusedVariables false
namespace Go.FK
open Go Go.RowKit
def upL (n : Nat) (l l' : List SpI) : Prop := MapOk eqI l ∧ MapOk eqI l' ∧ ∀ x, valG l' x = (valG l x).map (· + (n : Int))
section
variable {n : Nat} {l l' : List SpI} {lo hi v : Int}
end
def relC (n : Nat) (pre : List SpI) (t t' : TabC) : Prop := t'.1 = t.1 ∧ upL n t.2.1 t'.2.1 ∧ t'.2.2 = pre ++ t.2.2
section
variable {n : Nat} {pre : List SpI} {t t' : TabC}
end
theorem cls_good {s : List UInt8} (h : (badL (toldF s)).2 = 0) : clsF s = goC ([], [], []) (linesF (toldF s)) := by unfold clsF; rw [if_neg (by rw [h]; decide)]
end Go.FK
end

/- === PCl5 === -/
section
/- PCl5: a line's end behind a text: its lines, and at most a blank one. My own text. -/
set_option linter.unusedVariables false
namespace Go.FK
open Go Go.RowKit
end Go.FK
end

/- === PCl6 === -/
section
/- PCl6: a line that ends in a return is wrong. My own text. -/
set_option linter.unusedVariables false
namespace Go.FK
open Go Go.RowKit
end Go.FK
end

/- === PCl7 === -/
section
/- PCl7: a missing line ahead of all, and behind all. My own text. -/
set_option linter.unusedVariables false
namespace Go.FK
open Go Go.RowKit
end Go.FK
end

/- === PCl8 === -/
section
/- PCl8: what the notes' law asks: a note ahead, a missing line ahead, a missing line behind. My own text. -/
set_option linter.unusedVariables false
set_option maxRecDepth 100000
namespace Go.FK
open Go Go.RowKit
def noteT : List UInt8 := [35, 32, 97, 32, 110, 111, 116, 101, 10, 10]
def missT2 : List UInt8 := [35, 32, 64, 109, 105, 115, 115, 105, 110, 103, 58, 32, 48, 48, 48, 48, 46, 46, 49, 48, 70, 70, 70, 70, 59, 32, 65, 78, 10]
section
variable {s : List UInt8} {r : Int}
end
def linB (n : Int) (l : List SpI) : Prop := ∀ x ∈ l, 0 ≤ x.2.2 ∧ x.2.2 ≤ n
end Go.FK
end

/- === PCl9 === -/
section
/- PCl9: lines as the table writes them, told and scanned. My own text. -/
set_option linter.unusedVariables false
namespace Go.FK
open Go Go.RowKit
theorem hexTab_dig : ∀ d : Nat, d < 16 → digitV (hexTab.getD d 0).toNat = (d : Int) := by decide
theorem hexTab_zero : ∀ d : Nat, d < 16 → hexTab.getD d 0 = 48 → d = 0 := by decide
theorem digs_cons (n l : Nat) : digsD n (l + 1) = hexDig n l :: digsD n l := by
  unfold digsD; rw [List.range_succ, List.map_append, List.reverse_append]; rfl
theorem hexDig_dig (n l : Nat) : digitV (hexDig n l).toNat = ((n / 16 ^ l % 16 : Nat) : Int) := hexTab_dig _ (Nat.mod_lt _ (by omega))
theorem hexV_digs (n : Nat) : ∀ (l m : Nat), hexV (digsD n l) m = some (m * 16 ^ l + n % 16 ^ l)
  | 0, m => by simp [digsD, hexV]; omega
  | l + 1, m => by
    rw [digs_cons, hexV, hexDig_dig, if_neg (by omega), hexV_digs n l, Int.toNat_natCast, Nat.mod_pow_succ, Nat.pow_succ]
    congr 1
    generalize n / 16 ^ l % 16 = q
    generalize n % 16 ^ l = r
    rw [Nat.add_mul, Nat.mul_comm (16 ^ l) q, Nat.mul_comm (16 ^ l) 16, ← Nat.mul_assoc, Nat.mul_comm m 16]
    omega
theorem cnt_pow {n : Nat} (h : n ≤ 1114111) : n < 16 ^ cntD n := by
  unfold cntD
  split
  · simpa using by assumption
  · split
    · simpa using by assumption
    · simp; omega
theorem digs_first {n : Nat} (h : n ≤ 1114111) (h4 : 4 < cntD n) : ∃ c, (digsD n (cntD n))[0]? = some c ∧ c.toNat ≠ 48 := by
  obtain ⟨k, hk⟩ : ∃ k, cntD n = k + 1 := ⟨cntD n - 1, by omega⟩
  refine ⟨hexDig n k, by rw [hk, digs_cons]; rfl, ?_⟩
  intro e
  have e2 : hexDig n k = 48 := UInt8.toNat_inj.1 e
  have h0 := hexTab_zero _ (Nat.mod_lt (n / 16 ^ k) (by omega)) e2
  unfold cntD at hk h4
  split at hk
  · rename_i h5; rw [if_pos h5] at h4; omega
  · split at hk
    · obtain rfl : k = 4 := by omega
      simp at h0; omega
    · obtain rfl : k = 5 := by omega
      simp at h0; omega
theorem hex_show {r : Int} (h0 : 0 ≤ r) (h1 : r ≤ 1114111) : hexF (showF r).1 = (r, 0) := by
  rw [showF_ok h0 h1]
  have hn : r.toNat ≤ 1114111 := by omega
  have hc := cntD_le r.toNat
  have hv : hexV (digsD r.toNat (cntD r.toNat)) 0 = some r.toNat := by rw [hexV_digs, Nat.zero_mul, Nat.zero_add, Nat.mod_eq_of_lt (cnt_pow hn)]
  have := hexF_ok hv hn (by rw [digsD_len]; omega) (by rw [digsD_len]; omega) (by
    rw [digsD_len]
    rcases Nat.lt_or_ge 4 (cntD r.toNat) with h | h
    · exact .inr (digs_first hn h)
    · exact .inl h)
  rw [this, Int.toNat_of_nonneg h0]
def dgB (c : UInt8) : Bool := decide (48 ≤ c.toNat ∧ c.toNat ≤ 57) || decide (65 ≤ c.toNat ∧ c.toNat ≤ 70)
theorem dg_tab : ∀ d : Nat, d < 16 → dgB (hexTab.getD d 0) = true := by decide
theorem digs_dg (n l : Nat) : ∀ c ∈ digsD n l, dgB c = true := by
  intro c hc
  unfold digsD at hc
  rw [List.mem_reverse] at hc
  obtain ⟨i, _, rfl⟩ := List.mem_map.1 hc
  exact dg_tab _ (Nat.mod_lt _ (by omega))
theorem show_dg {r : Int} (h0 : 0 ≤ r) (h1 : r ≤ 1114111) : (∀ c ∈ (showF r).1, dgB c = true) ∧ 4 ≤ (showF r).1.length ∧ (showF r).1.length ≤ 6 := by
  rw [showF_ok h0 h1]
  have hc := cntD_le r.toNat
  refine ⟨digs_dg _ _, ?_, ?_⟩ <;> rw [digsD_len] <;> omega
theorem hexTab_dot : ∀ d : Nat, d < 16 → hexTab.getD d 0 ≠ 46 := by decide
theorem digs_nodot (n : Nat) : ∀ l, ∀ c ∈ digsD n l, c ≠ 46
  | 0, c, h => by simp [digsD] at h
  | l + 1, c, h => by
    rw [digs_cons] at h
    rcases List.mem_cons.1 h with rfl | h
    · exact hexTab_dot _ (Nat.mod_lt _ (by omega))
    · exact digs_nodot n l c h
theorem show_nodot (r : Int) : ∀ c ∈ (showF r).1, c ≠ 46 := by
  unfold showF
  split
  · simp
  · exact digs_nodot _ _
theorem getD_mem {s : List UInt8} {i : Nat} (h : i < s.length) : s.getD i 0 ∈ s := by
  rw [List.getD_eq_getElem?_getD, List.getElem?_eq_getElem h]; exact List.getElem_mem h
theorem dots_nodot {s : List UInt8} (h : ∀ c ∈ s, c ≠ 46) : ∀ (k i : Nat), s.length - i ≤ k → dotsFrom s i = none := by
  intro k
  induction k with
  | zero => intro i hk; exact dotsFrom_end (by omega)
  | succ k ih =>
    intro i hk
    rcases Nat.lt_or_ge (i + 1) s.length with h1 | h1
    · rw [dotsFrom_step h1, if_neg (fun e => h _ (getD_mem (by omega)) e.1)]
      exact ih (i + 1) (by omega)
    · exact dotsFrom_end h1
theorem dots_at {a b : List UInt8} (h : ∀ c ∈ a, c ≠ 46) : ∀ (k i : Nat), a.length - i ≤ k → i ≤ a.length → dotsFrom (a ++ [46, 46] ++ b) i = some a.length := by
  intro k
  have hl : (a ++ [46, 46] ++ b).length = a.length + 2 + b.length := by simp; omega
  have here : dotsFrom (a ++ [46, 46] ++ b) a.length = some a.length := by
    rw [dotsFrom_step (by omega), if_pos ⟨by simp, by simp⟩]
  induction k with
  | zero =>
    intro i hk hi
    obtain rfl : i = a.length := by omega
    exact here
  | succ k ih =>
    intro i hk hi
    rcases Nat.lt_or_ge i a.length with h1 | h1
    · rw [dotsFrom_step (by omega), if_neg]
      · exact ih (i + 1) (by omega) (by omega)
      · intro e
        refine h _ (getD_mem h1) ?_
        have e1 := e.1
        rw [List.getD_eq_getElem?_getD, List.append_assoc, List.getElem?_append_left h1] at e1
        rw [List.getD_eq_getElem?_getD]; exact e1
    · obtain rfl : i = a.length := by omega
      exact here
theorem span_show {lo hi : Int} (h : mayF lo hi = true) : spanF (showSpanF lo hi).1 = (lo, hi, 0) := by
  obtain ⟨h1, h2, h3⟩ := mayG_b (show mayG lo hi = true from h)
  rcases Int.lt_or_le lo hi with h4 | h4
  · rw [showSpan_two h (by omega)]
    have hd := dots_at (b := (showF hi).1) (show_nodot lo) _ 0 (Nat.le_refl _) (Nat.zero_le _)
    rw [span_some hd]
    have e1 : List.take (showF lo).1.length ((showF lo).1 ++ [46, 46] ++ (showF hi).1) = (showF lo).1 := by rw [List.append_assoc, List.take_left]
    have e2 : List.drop ((showF lo).1.length + 2) ((showF lo).1 ++ [46, 46] ++ (showF hi).1) = (showF hi).1 := by
      rw [show (showF lo).1.length + 2 = ((showF lo).1 ++ [46, 46]).length by simp, List.drop_left]
    rw [e1, e2, hex_show h1 (by omega), hex_show (by omega) h3]
    simp only
    rw [if_neg (by simp), if_neg (by omega)]
  · obtain rfl : lo = hi := by omega
    rw [showSpan_one h rfl, span_none (dots_nodot (show_nodot lo) _ 0 (Nat.le_refl _)), hex_show h1 h3]
    simp
theorem chk_plain {s : List UInt8} (hs : ∀ c ∈ s, 32 ≤ c.toNat ∧ c.toNat < 127) (hl : s.length ≤ 4096) : (chkF s).2 = 0 := by
  have key : ∀ (k p : Nat), s.length - p = k → p ≤ s.length → (chkL (charsFrom s p) p).2 = 0 := by
    intro k
    induction k with
    | zero => intro p hk hp; rw [chk_end (by omega)]
    | succ k ih =>
      intro p hk hp
      have hlt : p < s.length := by omega
      obtain ⟨c, hc⟩ : ∃ c, s[p]? = some c := ⟨s[p], List.getElem?_eq_getElem hlt⟩
      have hb := hs c (List.mem_of_getElem? hc)
      have hd := dec_low hc (by omega)
      rw [chk_on hlt (by omega) (by rw [wrong_eq, hd]; exact decide_eq_false (by simp only; omega)) (by rw [hd]; simp only; omega), hd]
      exact ih (p + 1) (by omega) (by omega)
  exact key s.length 0 (by omega) (by omega)
theorem trm_id {s : List UInt8} (hs : ∀ c ∈ s, c.toNat ≠ 32 ∧ c.toNat ≠ 9) : trmF s = s := by
  refine trm_done ?_
  cases hq : s with
  | nil => exact .inl rfl
  | cons a l =>
    rw [← hq]
    have hl : s.length = l.length + 1 := by rw [hq]; rfl
    have h0 : s[0]? = some a := by rw [hq]; rfl
    obtain ⟨d, hd⟩ : ∃ d, s[s.length - 1]? = some d := ⟨s[s.length - 1]'(by omega), List.getElem?_eq_getElem (by omega)⟩
    have h1 := hs a (List.mem_of_getElem? h0)
    have h2 := hs d (List.mem_of_getElem? hd)
    exact .inr ⟨a, d, h0, by omega, hd, by omega⟩
theorem nmem_of {s : List UInt8} {b : UInt8} (h : ∀ c ∈ s, c.toNat ≠ b.toNat) : b ∉ s := fun hb => h b hb rfl
theorem told_one {x : List UInt8} (h10 : ∀ c ∈ x, c.toNat ≠ 10) (h13 : ∀ c ∈ x, c.toNat ≠ 13) (hne : x ≠ []) (hm : markN (x ++ [10]) = 0) : toldF (x ++ [10]) = [(1, x)] := by
  have hlen : (x ++ [10]).length = x.length + 1 := by simp
  have key : ∀ k, k ≤ x.length → [] ++ (pcsFrom (x ++ [10]) 0 k).filter keepP = pcsR (x ++ [10]) := by
    intro k
    induction k with
    | zero => intro _; unfold pcsR; rw [hm]; rfl
    | succ k ih =>
      intro hk
      obtain ⟨c, hc⟩ : ∃ c, x[k]? = some c := ⟨x[k]'(by omega), List.getElem?_eq_getElem (by omega)⟩
      exact pr_on (by rw [List.getElem?_append_left (by omega)]; exact hc) (h10 c (List.mem_of_getElem? hc)) (ih (by omega))
  have hpos : 0 < x.length := List.length_pos_iff.2 hne
  obtain ⟨d, hd⟩ : ∃ d, x[x.length - 1]? = some d := ⟨x[x.length - 1]'(by omega), List.getElem?_eq_getElem (by omega)⟩
  have hcr : crN (x ++ [10]) 0 x.length = x.length := by
    unfold crN
    rw [if_neg]
    rintro ⟨_, e⟩
    rw [List.getD_eq_getElem?_getD, List.getElem?_append_left (by omega), hd] at e
    have e : d = 13 := e
    exact h13 d (List.mem_of_getElem? hd) (by rw [e]; rfl)
  have h1 := pr_nl (to := x.length) (Nat.zero_le _) (show (x ++ [10])[x.length]? = some 10 by simp) rfl hcr.symm (key x.length (Nat.le_refl _))
  rw [pcs_end (by omega)] at h1
  rw [List.filter_cons, if_neg (by simp [keepP])] at h1
  rw [told_ref, ← h1]
  simp [toldR]
def headX (A B : List UInt8) : List UInt8 := A ++ 59 :: (32 :: B)
def plB (c : UInt8) : Bool := decide ((33 ≤ c.toNat ∧ c.toNat < 127) ∧ c.toNat ≠ 35 ∧ c.toNat ≠ 59 ∧ c.toNat ≠ 64)
theorem pl_range {c : UInt8} (h : plB c = true) : (33 ≤ c.toNat ∧ c.toNat < 127) ∧ c.toNat ≠ 35 ∧ c.toNat ≠ 59 ∧ c.toNat ≠ 64 := of_decide_eq_true h
section
variable {A B : List UInt8} (hA : ∀ c ∈ A, plB c = true) (hB : ∀ c ∈ B, plB c = true) (nA : A ≠ []) (nB : B ≠ [])
include hA hB in
theorem head_mem : ∀ c ∈ headX A B, 32 ≤ c.toNat ∧ c.toNat < 127 ∧ c.toNat ≠ 35 ∧ c.toNat ≠ 64 := by
  intro c hc
  unfold headX at hc
  rcases List.mem_append.1 hc with h | h
  · have := pl_range (hA c h); omega
  · rcases List.mem_cons.1 h with rfl | h
    · decide
    · rcases List.mem_cons.1 h with rfl | h
      · decide
      · have := pl_range (hB c h); omega
include hA in
theorem trm_dg : trmF A = A := trm_id fun c hc => by have := pl_range (hA c hc); omega
include hA hB nA nB in
theorem trm_head : trmF (headX A B) = headX A B := by
  obtain ⟨a, A', rfl⟩ : ∃ a A', A = a :: A' := by cases A with | nil => exact absurd rfl nA | cons a l => exact ⟨a, l, rfl⟩
  refine trm_done (.inr ⟨a, B.getLast nB, rfl, ?_, ?_, ?_⟩)
  · have := pl_range (hA a List.mem_cons_self); omega
  · unfold headX
    have h : ((a :: A') ++ 59 :: (32 :: B)) = ((a :: A') ++ [59, 32]) ++ B := by simp
    rw [h, List.getElem?_append_right (by simp only [List.length_append]; have := List.length_pos_iff.2 nB; omega)]
    rw [List.getLast_eq_getElem]
    have e : ((a :: A') ++ [59, 32] ++ B).length - 1 - ((a :: A') ++ [59, 32]).length = B.length - 1 := by simp only [List.length_append]; have := List.length_pos_iff.2 nB; omega
    rw [e]; exact List.getElem?_eq_getElem (by have := List.length_pos_iff.2 nB; omega)
  · have := pl_range (hB _ (List.getLast_mem nB)); omega
include hA hB nA nB in
theorem fields_head : fieldsF (headX A B) = [A, B] := by
  unfold fieldsF
  rw [trm_head hA hB nA nB, if_neg (by unfold headX; simp)]
  unfold headX
  rw [splF_run A (32 :: B) (nmem_of fun c hc => by have := pl_range (hA c hc); show c.toNat ≠ 59; omega)]
  rw [splF_one (32 :: B) (nmem_of fun c hc => by
    rcases List.mem_cons.1 hc with rfl | hc
    · decide
    · have := pl_range (hB c hc); show c.toNat ≠ 59; omega)]
  simp only [List.map_cons, List.map_nil]
  rw [trm_dg hA, trm_cons B (by decide), trm_dg hB]
include hA hB in
theorem cut_head : Lib.cut (headX A B) [35] = (headX A B, [], false) := by
  have hm := head_mem hA hB
  rw [cut_unt]
  exact unt_none (i := (headX A B).length) (fun j c _ _ hc e => by have := hm c (List.mem_of_getElem? hc); rw [e] at this; exact this.2.2.1 rfl) (Nat.le_refl _)
include hA hB nA nB in
theorem scan_named (no : Int) (hl : (headX A B).length ≤ 4096) : scanF no (headX A B) = ((no, 1, [], [A, B], []), 0) := by
  have hm := head_mem hA hB
  have hcut := cut_head hA hB
  have hch : (chkF (headX A B)).2 = 0 := chk_plain (fun c hc => by have := hm c hc; omega) hl
  have hhead : headF (headX A B) = headX A B := by unfold headF; rw [hcut]; exact trm_head hA hB nA nB
  have hnote : noteF (headX A B) = [] := by unfold noteF; rw [hcut]; rfl
  have hfld : (cutF (headX A B)).1 = [A, B] := by rw [cutF_head, hhead]; exact fields_head hA hB nA nB
  have hne : headF (headX A B) ≠ [] := by rw [hhead]; unfold headX; simp
  have h64 : hpB (headF (headX A B)) [64] = false := by
    rw [hhead]
    obtain ⟨a, A', rfl⟩ : ∃ a A', A = a :: A' := by cases A with | nil => exact absurd rfl nA | cons a l => exact ⟨a, l, rfl⟩
    exact hp_one_not (c := a) rfl (by have := pl_range (hA a List.mem_cons_self); omega)
  rw [scan_data hch hne h64, hfld, hnote]
def missX (A B : List UInt8) : List UInt8 := 35 :: (32 :: (missT ++ 32 :: headX A B))
include hA hB in
theorem miss_mem : ∀ c ∈ missX A B, 32 ≤ c.toNat ∧ c.toNat < 127 := by
  intro c hc
  unfold missX at hc
  have key : ∀ d ∈ (35 :: 32 :: (missT ++ [32]) : List UInt8), 32 ≤ d.toNat ∧ d.toNat < 127 := by decide
  have e : (35 :: (32 :: (missT ++ 32 :: headX A B)) : List UInt8) = (35 :: 32 :: (missT ++ [32])) ++ headX A B := by simp
  rw [e] at hc
  rcases List.mem_append.1 hc with h | h
  · exact key c h
  · have := head_mem hA hB c h; omega
include hA hB nA nB in
theorem scan_missing (no : Int) (hl : (missX A B).length ≤ 4096) : scanF no (missX A B) = ((no, 3, [], [A, B], []), 0) := by
  have hch : (chkF (missX A B)).2 = 0 := chk_plain (miss_mem hA hB) hl
  have hcut : Lib.cut (missX A B) [35] = ([], 32 :: (missT ++ 32 :: headX A B), true) := by
    rw [cut_unt]
    unfold missX
    rw [unt_hit (i := 0) (fun j c _ hj hc e => by omega) (show _ = some (35 : UInt8) from rfl) rfl]
    rfl
  have hhead : headF (missX A B) = [] := by unfold headF; rw [hcut]; rfl
  have hth := trm_head hA hB nA nB
  have hnote : noteF (missX A B) = missT ++ 32 :: headX A B := by
    unfold noteF; rw [hcut]
    show trmF (32 :: (missT ++ 32 :: headX A B)) = _
    rw [trm_cons _ (by decide)]
    refine trm_done (.inr ⟨64, B.getLast nB, rfl, by decide, ?_, ?_⟩)
    · have h : (missT ++ 32 :: headX A B) = (missT ++ 32 :: (A ++ [59, 32])) ++ B := by unfold headX; simp
      rw [h, List.getElem?_append_right (by simp only [List.length_append]; have := List.length_pos_iff.2 nB; omega)]
      rw [List.getLast_eq_getElem]
      have e : ((missT ++ 32 :: (A ++ [59, 32])) ++ B).length - 1 - (missT ++ 32 :: (A ++ [59, 32])).length = B.length - 1 := by rw [List.length_append]; have := List.length_pos_iff.2 nB; omega
      rw [e]; exact List.getElem?_eq_getElem (by have := List.length_pos_iff.2 nB; omega)
    · have := pl_range (hB _ (List.getLast_mem nB)); omega
  have hp : hpB (noteF (missX A B)) missT = true := by
    rw [hnote]; unfold hpB
    exact List.isPrefixOf_iff_prefix.2 ⟨_, rfl⟩
  have hdrop : (noteF (missX A B)).drop 9 = 32 :: headX A B := by rw [hnote]; rfl
  have hcut2 : Lib.cut (32 :: headX A B) [35] = (32 :: headX A B, [], false) := by
    have hm := head_mem hA hB
    rw [cut_unt]
    refine unt_none (i := (32 :: headX A B).length) (fun j c _ _ hc e => ?_) (Nat.le_refl _)
    rcases List.mem_cons.1 (List.mem_of_getElem? hc) with h | h
    · rw [h] at e; exact absurd e (by decide)
    · have := hm c h; rw [e] at this; exact this.2.2.1 rfl
  rw [scan_miss hch hhead hp, hdrop]
  unfold cutF
  rw [hcut2]
  have h1 : fieldsF (32 :: headX A B) = [A, B] := by
    rw [← fields_trm, trm_cons _ (by decide), hth]; exact fields_head hA hB nA nB
  rw [h1]; rfl
end
end Go.FK
end

/- === PClA === -/
section
/- PClA: what is written is read as the same. My own text. -/
set_option linter.unusedVariables false
set_option maxRecDepth 100000
namespace Go.FK
open Go Go.RowKit
abbrev ItC := List UInt8 × Int × List (List UInt8)
def lnsC : Nat → List ItC → List LineD
  | _, [] => []
  | k, x :: l => ((k : Int) + 1, x.2.1, [], x.2.2, []) :: lnsC (k + 1) l
def bodyC (l : List ItC) : List UInt8 := l.flatMap fun x => x.1 ++ [10]
structure GoodI (x : ItC) : Prop where
  mem : ∀ c ∈ x.1, 32 ≤ c.toNat ∧ c.toNat < 127
  ne : x.1 ≠ []
  scan : scanF 1 x.1 = ((1, x.2.1, [], x.2.2, []), 0)
theorem lnsC_sh : ∀ (l : List ItC) (k : Nat), (lnsC k l).map (shL 1) = lnsC (k + 1) l
  | [], _ => rfl
  | m :: l, k => by
    rw [lnsC, List.map_cons, lnsC_sh l (k + 1), lnsC]
    congr 1
theorem lnsC_app : ∀ (l m : List ItC) (k : Nat), lnsC k (l ++ m) = lnsC k l ++ lnsC (k + l.length) m
  | [], m, k => rfl
  | x :: l, m, k => by
    rw [List.cons_append, lnsC, lnsC, lnsC_app l m (k + 1), List.cons_append, List.length_cons, show k + 1 + l.length = k + (l.length + 1) by omega]
theorem mark_it {x : ItC} (h : GoodI x) (r : List UInt8) : markN (x.1 ++ r) = 0 := by
  obtain ⟨a, q, hq⟩ : ∃ a q, x.1 = a :: q := by cases hx : x.1 with | nil => exact absurd hx h.ne | cons a l => exact ⟨a, l, rfl⟩
  have ha := h.mem a (by rw [hq]; exact List.mem_cons_self)
  unfold markN
  rw [if_neg]
  rw [hq]
  unfold hpB markT
  intro e
  simp only [List.cons_append, List.isPrefixOf, Bool.and_eq_true, beq_iff_eq] at e
  have e1 := e.1; rw [← e1] at ha; exact absurd ha.2 (by decide)
theorem told_it {x : ItC} (h : GoodI x) : toldF (x.1 ++ [10]) = [(1, x.1)] :=
  told_one (fun c hc => by have := h.mem c hc; omega) (fun c hc => by have := h.mem c hc; omega) h.ne (mark_it h _)
theorem mark_bodyC : ∀ l : List ItC, (∀ x ∈ l, GoodI x) → markN (bodyC l) = 0
  | [], _ => rfl
  | x :: l, h => by
    have e : bodyC (x :: l) = x.1 ++ ([10] ++ bodyC l) := by unfold bodyC; rw [List.flatMap_cons]; simp
    rw [e]; exact mark_it (h x List.mem_cons_self) _
theorem bad_oneC (p : Int × List UInt8) : (badL [p]).2 = (scanF p.1 p.2).2 := by
  rw [badL]
  split
  · rfl
  · rename_i h; show (0 : Int) = _; simp at h; exact h.symm
theorem body_toldC : ∀ l : List ItC, (∀ x ∈ l, GoodI x) → (badL (toldF (bodyC l))).2 = 0 ∧ linesF (toldF (bodyC l)) = lnsC 0 l
  | [], _ => ⟨rfl, rfl⟩
  | x :: l, h => by
    have hm := h x List.mem_cons_self
    have hl : ∀ y ∈ l, GoodI y := fun y hy => h y (List.mem_cons_of_mem _ hy)
    obtain ⟨ih1, ih2⟩ := body_toldC l hl
    have hb : bodyC (x :: l) = (x.1 ++ [10]) ++ bodyC l := by unfold bodyC; rw [List.flatMap_cons]
    have hlast : (x.1 ++ [10]).getD ((x.1 ++ [10]).length - 1) 0 = 10 := by
      rw [List.getD_eq_getElem?_getD, List.length_append, List.length_singleton, Nat.add_sub_cancel, List.getElem?_append_right (Nat.le_refl _), Nat.sub_self]; rfl
    rw [hb, told_app (by simp) hlast (mark_bodyC l hl), told_it hm]
    have hs := hm.scan
    have h1 : (badL [((1 : Int), x.1)]).2 = 0 := by rw [bad_oneC, hs]
    refine ⟨by rw [bad_app h1, (bad_sh _ _).1]; exact ih1, ?_⟩
    show linesF ([_] ++ (toldF (bodyC l)).map (shT 1)) = _
    have h2 := lines_sh 1 _ ih1
    unfold linesF at h2 ih2 ⊢
    rw [List.map_append, h2, ih2, lnsC_sh, List.map_singleton, hs]
    rfl
theorem dg_pl {c : UInt8} (h : dgB c = true) : plB c = true := by
  unfold dgB at h
  unfold plB
  simp only [Bool.or_eq_true, decide_eq_true_eq] at h ⊢
  omega
theorem span_pl {lo hi : Int} (h : mayF lo hi = true) : (∀ c ∈ (showSpanF lo hi).1, plB c = true) ∧ (showSpanF lo hi).1 ≠ [] := by
  obtain ⟨h1, h2, h3⟩ := mayG_b (show mayG lo hi = true from h)
  have a := show_dg (r := lo) h1 (by omega)
  have b := show_dg (r := hi) (by omega) h3
  by_cases e : lo = hi
  · rw [showSpan_one h e]
    exact ⟨fun c hc => dg_pl (a.1 c hc), fun e => by rw [show (showF lo).1 = [] from e] at a; simp at a⟩
  · rw [showSpan_two h e]
    refine ⟨fun c hc => ?_, by simp⟩
    rcases List.mem_append.1 hc with q | q
    · rcases List.mem_append.1 q with q | q
      · exact dg_pl (a.1 c q)
      · have key : ∀ d ∈ ([46, 46] : List UInt8), plB d = true := by decide
        exact key c q
    · exact dg_pl (b.1 c q)
theorem tab_pl : ∀ c : Nat, c < 23 → (∀ x ∈ shortTab.getD (c + 1) [], plB x = true) ∧ ∀ x ∈ longTab.getD (c + 1) [], plB x = true := by decide
theorem classes_back : ∀ c : Nat, c < 23 → classF (shortTab.getD (c + 1) []) = (((c + 1 : Nat) : Int), 0) ∧ classF (longTab.getD (c + 1) []) = (((c + 1 : Nat) : Int), 0) := by
  have key : (List.range 23).all (fun c => decide (classF (shortTab.getD (c + 1) []) = (((c + 1 : Nat) : Int), 0)) && decide (classF (longTab.getD (c + 1) []) = (((c + 1 : Nat) : Int), 0))) = true := by kernel_rfl
  intro c hc
  have := List.all_eq_true.1 key c (List.mem_range.2 hc)
  simpa using this
theorem short_pl {c : Int} (h1 : 1 ≤ c) (h2 : c ≤ 23) : (∀ x ∈ shortS c, plB x = true) ∧ shortS c ≠ [] ∧ classF (shortS c) = (c, 0) := by
  obtain ⟨n, rfl⟩ : ∃ n : Nat, c = ((n + 1 : Nat) : Int) := ⟨c.toNat - 1, by omega⟩
  unfold shortS
  rw [if_pos ⟨h1, h2⟩, Int.toNat_natCast]
  exact ⟨(tab_pl n (by omega)).1, (tab_ne n (by omega)).1, (classes_back n (by omega)).1⟩
theorem long_pl {c : Int} (h1 : 1 ≤ c) (h2 : c ≤ 23) : (∀ x ∈ longS c, plB x = true) ∧ longS c ≠ [] ∧ classF (longS c) = (c, 0) := by
  obtain ⟨n, rfl⟩ : ∃ n : Nat, c = ((n + 1 : Nat) : Int) := ⟨c.toNat - 1, by omega⟩
  unfold longS
  rw [if_pos ⟨h1, h2⟩, Int.toNat_natCast]
  exact ⟨(tab_pl n (by omega)).2, (tab_ne n (by omega)).2, (classes_back n (by omega)).2⟩
def itN (x : SpI) : ItC := (headX (showSpanF x.1 x.2.1).1 (shortS x.2.2), 1, [(showSpanF x.1 x.2.1).1, shortS x.2.2])
def itM (x : SpI) : ItC := (missX (showSpanF x.1 x.2.1).1 (longS x.2.2), 3, [(showSpanF x.1 x.2.1).1, longS x.2.2])
theorem nl_it (x : SpI) : nlC x = (itN x).1 ++ [10] := by unfold nlC itN headX; simp
theorem ml_it (x : SpI) : mlC x = (itM x).1 ++ [10] := by unfold mlC itM missX headX missW missT; simp
theorem write_body (mm am : List SpI) : writeC mm am = bodyC (mm.map itM ++ am.map itN) := by
  unfold writeC bodyC
  rw [List.flatMap_append, List.flatMap_map, List.flatMap_map]
  congr 1
  · congr 1; funext x; exact ml_it x
  · congr 1; funext x; exact nl_it x
def okS (x : SpI) : Prop := mayF x.1 x.2.1 = true ∧ 1 ≤ x.2.2 ∧ x.2.2 ≤ 23
theorem good_n {x : SpI} (h : okS x) : GoodI (itN x) := by
  have a := span_pl h.1
  have b := short_pl h.2.1 h.2.2
  have hl := nl_len x
  rw [nl_it, List.length_append] at hl
  exact ⟨fun c hc => by have := head_mem a.1 b.1 c hc; omega, by unfold itN headX; simp, scan_named a.1 b.1 a.2 b.2.1 1 (by show (itN x).1.length ≤ _; omega)⟩
theorem good_m {x : SpI} (h : okS x) : GoodI (itM x) := by
  have a := span_pl h.1
  have b := long_pl h.2.1 h.2.2
  have hl := ml_len x
  rw [ml_it, List.length_append] at hl
  exact ⟨fun c hc => miss_mem a.1 b.1 c hc, by unfold itM missX; simp, scan_missing a.1 b.1 a.2 b.2.1 1 (by show (itM x).1.length ≤ _; omega)⟩
theorem told_n {x : SpI} (h : okS x) (wr : Int) : toldC [(showSpanF x.1 x.2.1).1, shortS x.2.2] wr = (x.1, x.2.1, x.2.2, 0) := by
  have hs := span_show h.1
  have hc := (short_pl h.2.1 h.2.2).2.2
  rw [tc_ok (a := (showSpanF x.1 x.2.1).1) (b := shortS x.2.2) rfl rfl rfl (by rw [hs]), hs, hc]
theorem told_m {x : SpI} (h : okS x) (wr : Int) : toldC [(showSpanF x.1 x.2.1).1, longS x.2.2] wr = (x.1, x.2.1, x.2.2, 0) := by
  have hs := span_show h.1
  have hc := (long_pl h.2.1 h.2.2).2.2
  rw [tc_ok (a := (showSpanF x.1 x.2.1).1) (b := longS x.2.2) rfl rfl rfl (by rw [hs]), hs, hc]
theorem go_missC : ∀ (mm : List SpI) (k : Nat) (t : TabC) (r : List LineD), (∀ x ∈ mm, okS x) → goC t (lnsC k (mm.map itM) ++ r) = goC (t.1, t.2.1, t.2.2 ++ mm) r
  | [], k, t, r, _ => by rw [List.append_nil]; rfl
  | x :: l, k, t, r, h => by
    have ht := told_m (h x List.mem_cons_self) 71
    have hs : stepL t ((k : Int) + 1, 3, [], [(showSpanF x.1 x.2.1).1, longS x.2.2], []) = ((t.1, t.2.1, t.2.2 ++ [x]), 0) := by
      unfold stepL
      rw [st_miss rfl (by rw [ht])]
      rw [ht]
    rw [List.map_cons, lnsC, List.cons_append, goC]
    rw [show stepL t ((k : Int) + 1, (itM x).2.1, [], (itM x).2.2, []) = _ from hs, if_neg (by simp), go_missC l (k + 1) _ r (fun y hy => h y (List.mem_cons_of_mem _ hy))]
    simp
theorem go_nameC : ∀ (am pre : List SpI) (k : Nat) (t : TabC), RiseG 0 (pre ++ am) → (∀ x ∈ am, okS x) → MapOk eqI t.1 → MapOk eqI t.2.1 → (∀ x, valG t.1 x = valG pre x) →
    (∀ x, (valG t.2.1 x).isSome = (valG pre x).isSome) → ∃ t' : TabC, goC t (lnsC k (am.map itN)) = (t', 0, 0) ∧ t'.2.2 = t.2.2 ∧ MapOk eqI t'.1 ∧ ∀ x, valG t'.1 x = valG (pre ++ am) x
  | [], pre, k, t, _, _, h1, _, hv, _ => ⟨t, rfl, rfl, h1, fun x => by rw [List.append_nil]; exact hv x⟩
  | s :: l, pre, k, t, hr, ho, h1, h2, hv, hw => by
    have hs := ho s List.mem_cons_self
    have ht := told_n hs 70
    have hm : mayG s.1 s.2.1 = true := hs.1
    have hpre : ∀ x, s.1 ≤ x → x ≤ s.2.1 → valG pre x = none := fun x a b => by
      have hra := (rise_app.1 hr).2.2
      unfold valG
      rw [List.find?_eq_none.2 (fun q hq => by
        have := (hra q hq).1
        rw [inS_no (.inr (by omega))]; decide)]
      rfl
    have n1 : putE t.1 s.1 s.2.1 = 0 := by
      unfold putE
      rw [if_neg (by rw [hm]; decide), (metG_none h1.rise hm).2 (fun x a b => by rw [hv, hpre x a b])]
      rfl
    have n2 : putE t.2.1 s.1 s.2.1 = 0 := by
      unfold putE
      rw [if_neg (by rw [hm]; decide), (metG_none h2.rise hm).2 (fun x a b => by
        have := hw x
        rw [hpre x a b] at this
        cases hq : valG t.2.1 x with
        | none => rfl
        | some u => rw [hq] at this; cases this)]
      rfl
    have hst : stepL t ((k : Int) + 1, 1, [], [(showSpanF s.1 s.2.1).1, shortS s.2.2], []) = ((putF eqI t.1 s.1 s.2.1 s.2.2, putF eqI t.2.1 s.1 s.2.1 ((k : Int) + 1), t.2.2), 0) := by
      unfold stepL
      rw [st_data rfl (by rw [ht]) (by rw [ht]; exact n2) (by rw [ht]; exact n1)]
      rw [ht]
    have hval : ∀ x, valG (putF eqI t.1 s.1 s.2.1 s.2.2) x = valG (pre ++ [s]) x := fun x => by
      rw [put_valI h1.rise n1, valG_app, hv]
      split
      · rename_i h; rw [hpre x h.1 h.2]; unfold valG; rw [List.find?_cons, inS_yes h]; rfl
      · rename_i h
        have : valG [s] x = none := by unfold valG; rw [List.find?_cons, inS_no (by omega)]; rfl
        rw [this, Option.or_none]
    have hsom : ∀ x, (valG (putF eqI t.2.1 s.1 s.2.1 ((k : Int) + 1)) x).isSome = (valG (pre ++ [s]) x).isSome := fun x => by
      rw [put_valI h2.rise n2, valG_app]
      split
      · rename_i h; rw [hpre x h.1 h.2]; unfold valG; rw [List.find?_cons, inS_yes h]; rfl
      · rename_i h
        have : valG [s] x = none := by unfold valG; rw [List.find?_cons, inS_no (by omega)]; rfl
        rw [this, Option.or_none]; exact hw x
    obtain ⟨t', e1, e2, e3, e4⟩ := go_nameC l (pre ++ [s]) (k + 1) (putF eqI t.1 s.1 s.2.1 s.2.2, putF eqI t.2.1 s.1 s.2.1 ((k : Int) + 1), t.2.2) (by rw [List.append_assoc]; exact hr)
      (fun y hy => ho y (List.mem_cons_of_mem _ hy)) (h1.put eqI_law _ _ _) (h2.put eqI_law _ _ _) hval hsom
    refine ⟨t', ?_, e2, e3, fun x => by rw [e4, List.append_assoc]; rfl⟩
    rw [List.map_cons, lnsC, goC]
    rw [show stepL t ((k : Int) + 1, (itN s).2.1, [], (itN s).2.2, []) = _ from hst, if_neg (by simp)]
    exact e1
theorem write_read {mm am : List SpI} (ha : MapOk eqI am) (hm : ∀ x ∈ mm, okS x) (hn : ∀ x ∈ am, okS x) : (clsF (writeC mm am)).2.2 = 0 ∧ (clsF (writeC mm am)).1.1 = am ∧ (clsF (writeC mm am)).1.2.2 = mm := by
  have hg : ∀ x ∈ mm.map itM ++ am.map itN, GoodI x := fun x hx => by
    rcases List.mem_append.1 hx with h | h
    · obtain ⟨y, hy, rfl⟩ := List.mem_map.1 h; exact good_m (hm y hy)
    · obtain ⟨y, hy, rfl⟩ := List.mem_map.1 h; exact good_n (hn y hy)
  obtain ⟨b1, b2⟩ := body_toldC _ hg
  rw [← write_body] at b1 b2
  rw [cls_good b1, b2, lnsC_app, go_missC _ _ _ _ hm]
  obtain ⟨t', e1, e2, e3, e4⟩ := go_nameC am [] (0 + (mm.map itM).length) ([], [], [] ++ mm) ha.rise hn MapOk.nil MapOk.nil (fun x => rfl) (fun x => rfl)
  rw [e1]
  exact ⟨rfl, MapOk.one eqI_law e3 ha e4, e2⟩
theorem span_may {a : List UInt8} (h : (spanF a).2.2 = 0) : mayF (spanF a).1 (spanF a).2.1 = true := by
  have hb := span_rng a
  have hle : (spanF a).1 ≤ (spanF a).2.1 := by
    cases hd : dotsFrom a 0 with
    | none =>
      rw [span_none hd] at h ⊢
      split at h <;> rename_i q
      · rw [if_pos q]; exact Int.le_refl _
      · rw [if_neg q]; exact Int.le_refl _
    | some i =>
      rw [span_some hd] at h ⊢
      split at h <;> rename_i q
      · exact absurd h (by decide)
      · rw [if_neg q]
        split at h <;> rename_i q2
        · exact absurd h (by decide)
        · rw [if_neg q2]; simp only; omega
  unfold mayF
  exact decide_eq_true ⟨hb.1.1, hle, hb.2.2⟩
theorem told_may {f : List (List UInt8)} {wr : Int} (hw : wr ≠ 0) (h : (toldC f wr).2.2.2 = 0) : mayF (toldC f wr).1 (toldC f wr).2.1 = true := by
  unfold toldC at *
  split at h
  · exact absurd h hw
  · rename_i h1
    rw [if_neg h1]
    split at h
    · rename_i h2; exact absurd h h2
    · rename_i h2; rw [if_neg h2]; exact span_may (by simpa using h2)
theorem go_may : ∀ (l : List LineD) (t : TabC), (∀ x ∈ t.2.2, mayF x.1 x.2.1 = true) → ∀ x ∈ (goC t l).1.2.2, mayF x.1 x.2.1 = true
  | [], t, h => h
  | x :: l, t, h => by
    unfold goC
    split
    · exact h
    · refine go_may l _ ?_
      unfold stepL stepC
      repeat' split
      all_goals try exact h
      rename_i h5
      intro y hy
      rcases List.mem_append.1 hy with hy | hy
      · exact h y hy
      · obtain rfl := List.mem_singleton.1 hy
        exact told_may (by decide) (by simpa using h5)
theorem cls_may (s : List UInt8) : ∀ x ∈ (clsF s).1.2.2, okS x := fun x hx => by
  have h2 := (cls_cls s).2 x hx
  refine ⟨?_, h2⟩
  unfold clsF at hx
  split at hx
  · cases hx
  · exact go_may _ _ (fun x h => by cases h) x hx
theorem cls_say (s : List UInt8) : ∀ x ∈ (clsF s).1.1, okS x := fun x hx => by
  have h2 := (cls_cls s).1 x hx
  have h3 := (cls_ok s).1.rise.mem x hx
  exact ⟨by unfold mayF; exact decide_eq_true h3, h2⟩
theorem put_lenI {l : List SpI} {lo hi v : Int} (hr : RiseG 0 l) : (putF eqI l lo hi v).length ≤ l.length + 1 := by
  unfold putF
  split
  · omega
  · rename_i hm
    split
    · omega
    · rename_i hq
      have hm : mayG lo hi = true := by simpa using hm
      have hn : metG l lo hi = none := by simpa using hq
      obtain ⟨m0, m1, m2⟩ := mayG_b hm
      have hcut : cutG lo hi l = l := by
        have e := List.take_append_drop (fromG l lo) l
        have hlow := fromG_low l lo
        rw [← e, (cut_low (fun s hs => hlow s hs)).1]
        congr 1
        cases hd : l.drop (fromG l lo) with
        | nil => rfl
        | cons s r =>
          have hs : l[fromG l lo]? = some s := by rw [← List.head?_drop, hd]; rfl
          have h1 := fromG_high l lo s hs
          have h2 : hi < s.1 := by
            rcases Int.lt_or_le hi s.1 with h | h
            · exact h
            · rw [metG_yes hm hs h] at hn; cases hn
          rw [cutG_cons, if_neg (by omega), if_pos h2]
      unfold layG
      rw [hcut]
      unfold layC
      have a1 : (leftC eqI l lo v).1 ≤ fromG l lo := by
        unfold leftC; split
        · split <;> simp only <;> omega
        · exact Nat.le_refl _
      have a2 : fromG l lo ≤ (rightC eqI l lo hi v).1 := by
        unfold rightC; split
        · split <;> simp only <;> omega
        · exact Nat.le_refl _
      simp only [List.length_append, List.length_take, List.length_drop, List.length_singleton]
      omega
theorem go_len : ∀ (l : List LineD) (t : TabC), MapOk eqI t.1 → MapOk eqI t.2.1 → (goC t l).1.1.length ≤ t.1.length + l.length
  | [], t, _, _ => Nat.le_refl _
  | x :: l, t, h1, h2 => by
    unfold goC
    split
    · show t.1.length ≤ _; simp only [List.length_cons]; omega
    · have h3 := step_ok t x h1 h2
      have h4 := go_len l _ h3.1 h3.2.1
      have h5 : (stepL t x).1.1.length ≤ t.1.length + 1 := by
        unfold stepL stepC
        repeat' split
        all_goals first | exact put_lenI h1.rise | (simp only; omega)
      simp only [List.length_cons]; omega
theorem cls_len1 (s : List UInt8) : (clsF s).1.1.length ≤ s.length + 1 := by
  unfold clsF
  split
  · exact Nat.zero_le _
  · have h := go_len (linesF (toldF s)) ([], [], []) MapOk.nil MapOk.nil
    have h2 : (linesF (toldF s)).length = (toldF s).length := List.length_map ..
    have h3 : (goC ([], [], []) (linesF (toldF s))).1.1.length ≤ 0 + (linesF (toldF s)).length := h
    have := told_len s
    omega
def textC (s : List UInt8) : List UInt8 := writeC (clsF s).1.2.2 (clsF s).1.1
theorem text_len (s : List UInt8) : (textC s).length ≤ 120 * s.length + 120 := by
  have h1 := write_lenC (clsF s).1.2.2 (clsF s).1.1
  have h2 := cls_len1 s
  have h3 := (cls_ok s).2.2
  unfold textC; omega
attribute [local irreducible] clsF in
theorem text_read (s : List UInt8) : (clsF (textC s)).2.2 = 0 ∧ (clsF (textC s)).1.1 = (clsF s).1.1 ∧ (clsF (textC s)).1.2.2 = (clsF s).1.2.2 :=
  write_read (mm := (clsF s).1.2.2) (am := (clsF s).1.1) (cls_ok s).1 (cls_may s) (cls_say s)
theorem text_whole (s : List UInt8) : wholeF (clsF (textC s)).1 = wholeF (clsF s).1 := by
  have h := text_read s
  unfold wholeF; rw [h.2.1, h.2.2]
theorem text_text (s : List UInt8) : writeC (clsF (textC s)).1.2.2 (clsF (textC s)).1.1 = textC s := by
  have h := text_read s
  rw [h.2.1, h.2.2]; rfl
theorem text_mm (s : List UInt8) : (clsF (textC s)).1.2.2.length ≤ s.length + 1 := by
  rw [(text_read s).2.2]; exact (cls_ok s).2.2
theorem el_same {a b : List SpI} {i : Nat} {x y : SpI} (h : b = a) (hx : a[i]? = some x) (hy : b[i]? = some y) : x = y := by
  subst h; rw [hx] at hy; exact Option.some.inj hy
theorem same_bk {a b : List SpI} (h : b = a) : decide (fewC a (-1) = fewC (fewC b (-1)) (-1)) = true := by
  subst h; rw [few_neg _ (by decide), few_neg _ (by decide)]; exact decide_eq_true rfl
end Go.FK
end

/- === Wllines === -/
section
/- Walks, written by my program walk.py out of the specification llines.py: each theorem says what one function returns and that it leaves memory as it was. -/
namespace Go.Proofs.YtkclikfejmeblaaGreatDoor
open Go Go.RowKit Go.FK
set_option maxHeartbeats 4000000
set_option maxRecDepth 100000
set_option linter.unusedVariables false
set_option linter.unusedSimpArgs false
theorem el70 : Elem Tryz.prog 70 9 1 16 := ⟨Tryz.underlying70, by kernel_rfl, rfl⟩
theorem el161 : Elem Tryz.prog 161 164 3 24 := ⟨Tryz.underlying161, by kernel_rfl, rfl⟩
theorem el58 : Elem Tryz.prog 58 72 5 72 := ⟨Tryz.underlying58, by kernel_rfl, rfl⟩
theorem c_strings_IndexByte (s : List UInt8) (c : Int) (w : World) :
  Calls Tryz.prog 127 #[(S s), (.int .u8 c)] w (Ret fun v w' => v = (.int .i64 (ibF s c)) ∧ Below w.heap.size w w') :=
 indexByte_contract Tryz.strings_IndexByte s c w
theorem c_strings_HasPrefix (s : List UInt8) (p : List UInt8) (w : World) :
  Calls Tryz.prog 96 #[(S s), (S p)] w (Ret fun v w' => v = (.bool (hpB s p)) ∧ Below w.heap.size w w') :=
 hasPrefix_contract Tryz.strings_HasPrefix s p w
theorem c_stringslite_Index (s : List UInt8) (sep : List UInt8) (w : World) (h1 : sep.length = 1) :
  Calls Tryz.prog 144 #[(S s), (S sep)] w (Ret fun v w' => v = (.int .i64 (Lib.index s sep)) ∧ Below w.heap.size w w') :=
 index1_contract Tryz.stringslite_Index_one s sep w h1
theorem c_stringslite_Cut (s : List UInt8) (sep : List UInt8) (w : World) (h1 : sep.length = 1) (hs : s.length ≤ 1073741824) :
  Calls Tryz.prog 129 #[(S s), (S sep)] w (Ret fun v w' => v = (.tuple #[(S ((Lib.cut s sep).1)), (S ((Lib.cut s sep).2.1)), (.bool ((Lib.cut s sep).2.2))]) ∧ Below w.heap.size w w') := by
 refine K11 (enter (args := [(S s), (S sep)]) Tryz.func129 rfl (by kernel_rfl : _ = 23)) ?_
 have hb := Below.refl w.heap.size w
 have hs : w.heap.size ≤ w.heap.size := Nat.le_refl _
 refine zF (zD (zJ (zJ (zJ (zE (zA (zF (zF (zD (zI (zI (K22 (yA 144 [(S s), (S sep)]) (c_stringslite_Index s sep _ (by omega)) ?_))))))))))))
 rintro _ w1 ⟨rfl, hB2⟩
 replace hb := hb.trans (hB2.mono hs)
 replace hs := Nat.le_trans hs (hB2.size)
 have := ixl_range s sep
 refine zJ (zE (zA (zF (zD (zI (K22 (yD .i64 (Lib.index s sep) 0 (0 ≤ (Lib.index s sep)) rfl (cmp_ge (Lib.index s sep) 0)) ?_ ?_))))))
 ·intro h4
  replace h4 : 0 ≤ (Lib.index s sep) := by omega
  refine zE (zA (K11 zS (zF (K21 W_quiet (yI (yI (K13 (Lq_ssto s (((Lib.index s sep)).toNat) Tryz.underlying9) (K11 (toNat_val (Lib.index s sep) .i64) (by omega)) (by omega) (yI (yI (yI (K11 (Lq_slen 9 sep rfl Tryz.underlying9) (K22 (Lq_arith (Lib.index s sep) (((sep).length : Nat) : Int) ((Lib.index s sep) + (((sep).length : Nat) : Int)) rfl) (xL _ (by simp only [arithZ]; omega) (by simp only [arithZ]; omega)) (K13 (Lq_ssfrom s ((((Lib.index s sep) + (((sep).length : Nat) : Int))).toNat) Tryz.underlying9) (K11 (toNat_val ((Lib.index s sep) + (((sep).length : Nat) : Int)) .i64) (by omega)) (by omega) (Lq_as (Lq_as (Lq_as (xF ?_)))))))))))))))))
  intro w5 hB6
  replace hb := hb.trans (hB6.mono hs)
  replace hs := Nat.le_trans hs (hB6.size)
  refine zA (zX (zH ?_))
  refine zO [.tmp 4, .tmp 5, .tmp 6] [(S (List.take (((Lib.index s sep)).toNat) s)), (S (List.drop ((((Lib.index s sep) + (((sep).length : Nat) : Int))).toNat) s)), (.bool true)] rfl rfl ⟨by kernel_rfl, by kernel_rfl, by kernel_rfl, trivial⟩ ?_
  have hE : ((List.take (((Lib.index s sep)).toNat) s) = (Lib.cut s sep).1) ∧ ((List.drop ((((Lib.index s sep) + (((sep).length : Nat) : Int))).toNat) s) = (Lib.cut s sep).2.1) ∧ (true = (Lib.cut s sep).2.2) := ⟨(by (rw [cut_some (by omega)]; done)), (by (rw [cut_some (by omega)]; done)), (by (rw [cut_some (by omega)]; done))⟩
  exact ⟨tup3 (congrArg S hE.1) (congrArg S hE.2.1) (congrArg Value.bool hE.2.2), hb⟩
 ·intro h7
  replace h7 : (Lib.index s sep) < 0 := by omega
  refine zE (zA (K11 zN (zV (zA (zF (zD (zI (zJ (zJ (zJ (zE (zA (zX ?_)))))))))))))
  refine zO [.tmp 4, .tmp 5, .tmp 6] [(S s), (S ([] : List UInt8)), (.bool false)] rfl rfl ⟨by kernel_rfl, by kernel_rfl, by kernel_rfl, trivial⟩ ?_
  have hE : (s = (Lib.cut s sep).1) ∧ (([] : List UInt8) = (Lib.cut s sep).2.1) ∧ (false = (Lib.cut s sep).2.2) := ⟨(by (rw [cut_none (by omega)]; done)), (by (rw [cut_none (by omega)]; done)), (by (rw [cut_none (by omega)]; done))⟩
  exact ⟨tup3 (congrArg S hE.1) (congrArg S hE.2.1) (congrArg Value.bool hE.2.2), hb⟩
theorem c_strings_Cut (s : List UInt8) (sep : List UInt8) (w : World) (h1 : sep.length = 1) (hs : s.length ≤ 1073741824) :
  Calls Tryz.prog 94 #[(S s), (S sep)] w (Ret fun v w' => v = (.tuple #[(S ((Lib.cut s sep).1)), (S ((Lib.cut s sep).2.1)), (.bool ((Lib.cut s sep).2.2))]) ∧ Below w.heap.size w w') := by
 refine K11 (enter (args := [(S s), (S sep)]) Tryz.func94 rfl (by kernel_rfl : _ = 13)) ?_
 have hb := Below.refl w.heap.size w
 have hs : w.heap.size ≤ w.heap.size := Nat.le_refl _
 refine zF (zD (zJ (zJ (zJ (zE (zA (zF (zD (zI (zI (K22 (yA 129 [(S s), (S sep)]) (c_stringslite_Cut s sep _ (by omega) (by omega)) ?_)))))))))))
 rintro _ w1 ⟨rfl, hB2⟩
 replace hb := hb.trans (hB2.mono hs)
 replace hs := Nat.le_trans hs (hB2.size)
 have := cutl_len s sep
 refine K21 (zQ (S ((Lib.cut s sep).1))) (K21 (zQ (S ((Lib.cut s sep).2.1))) (K21 (zQ (.bool ((Lib.cut s sep).2.2))) (zJ (zJ (zJ (zE (zA (zX ?_))))))))
 refine zO [.tmp 4, .tmp 5, .tmp 6] [(S ((Lib.cut s sep).1)), (S ((Lib.cut s sep).2.1)), (.bool ((Lib.cut s sep).2.2))] rfl rfl ⟨by kernel_rfl, by kernel_rfl, by kernel_rfl, trivial⟩ ?_
 have hE : ((Lib.cut s sep).1 = (Lib.cut s sep).1) ∧ ((Lib.cut s sep).2.1 = (Lib.cut s sep).2.1) ∧ ((Lib.cut s sep).2.2 = (Lib.cut s sep).2.2) := ⟨(by first | rfl | (simp_all; done) | omega), (by first | rfl | (simp_all; done) | omega), (by first | rfl | (simp_all; done) | omega)⟩
 exact ⟨tup3 (congrArg S hE.1) (congrArg S hE.2.1) (congrArg Value.bool hE.2.2), hb⟩
theorem c_strings_Trim (s : List UInt8) (c : List UInt8) (w : World) (ha : c.all (fun b => decide (b.toNat < 128)) = true) (hs : s.length ≤ 1073741824) (hc : c.length ≤ 1073741824) :
  Calls Tryz.prog 130 #[(S s), (S c)] w (Ret fun v w' => v = (S (Lib.trimS s c)) ∧ Below w.heap.size w w') :=
 trim_contract (fun s c w hs hcs ha => Go.Proofs.Any.strings_Trim_laid Tryz.lays160 (by kernel_rfl) s c w hs hcs ha) s c w ha hs hc
theorem c_lines_trim (s : List UInt8) (w : World) (hs : s.length ≤ 1073741824) :
  Calls Tryz.prog 95 #[(S s)] w (Ret fun v w' => v = (S (trmF s)) ∧ Below w.heap.size w w') := by
 refine K11 (enter (args := [(S s)]) Tryz.func95 rfl (by kernel_rfl : _ = 5)) ?_
 have hb := Below.refl w.heap.size w
 have hs : w.heap.size ≤ w.heap.size := Nat.le_refl _
 refine zF (zD (zJ (zE (zA (zF (zD (zI (K22 (yA 130 [(S s), (S ([32, 9] : List UInt8))]) (c_strings_Trim s ([32, 9] : List UInt8) _ (by decide) (by first | omega | decide) (by first | omega | decide)) ?_))))))))
 rintro _ w1 ⟨rfl, hB2⟩
 replace hb := hb.trans (hB2.mono hs)
 replace hs := Nat.le_trans hs (hB2.size)
 refine zJ (zE (zA (zX ?_)))
 refine zO [.tmp 2] [(S (Lib.trimS s ([32, 9] : List UInt8)))] rfl rfl ⟨by kernel_rfl, trivial⟩ ?_
 have e0 : (Lib.trimS s ([32, 9] : List UInt8)) = (trmF s) := by rfl
 exact ⟨congrArg S e0, hb⟩
theorem c_lines_wrong (s : List UInt8) (p : Nat) (r : Int) (w : World) (hp : p ≤ s.length) :
  Calls Tryz.prog 128 #[(S s), (.int .i64 ((p : Nat) : Int)), (.int .i32 r)] w (Ret fun v w' => v = (.bool (wrongB s p r)) ∧ Below w.heap.size w w') := by
 refine K11 (enter (args := [(S s), (.int .i64 ((p : Nat) : Int)), (.int .i32 r)]) Tryz.func128 rfl (by kernel_rfl : _ = 18)) ?_
 have hb := Below.refl w.heap.size w
 have hs : w.heap.size ≤ w.heap.size := Nat.le_refl _
 refine zF (zD (zJ (zE (zA (zF (zD (zI (K22 (yD .i32 r 65533 (r = 65533) rfl (xB r 65533)) ?_ ?_))))))))
 ·intro h1
  replace h1 : r = 65533 := by omega
  refine zI (K11 zY (zI (K11 zY (zI (K11 zY (K13 (L_ssfrom s p Tryz.underlying9) ⟨.i64, by kernel_rfl⟩ (by omega) (K11 zY (zI (K11 zY (K13 (L_runeStr r) Tryz.underlying21 Tryz.underlying9 (K11 zY (K22 (yA 96 [(S (List.drop p s)), (S (encL [r]))]) (c_strings_HasPrefix (List.drop p s) (encL [r]) _) ?_))))))))))))
  rintro _ w2 ⟨rfl, hB3⟩
  replace hb := hb.trans (hB3.mono hs)
  replace hs := Nat.le_trans hs (hB3.size)
  refine xK (hpB (List.drop p s) (encL [r])) ?_ ?_
  ·intro h5
   refine K11 zY (K11 (L_not true) (K11 yU (zJ (zE (zA (zX ?_))))))
   refine zO [.tmp 6] [(.bool false)] rfl rfl ⟨by kernel_rfl, trivial⟩ ?_
   have e0 : false = wrongB s p r := by (unfold wrongB; simp_all; done)
   exact ⟨congrArg Value.bool e0, hb⟩
  ·intro h6
   refine K11 zY (K11 (L_not false) (K11 yU (zJ (zE (zA (zX ?_))))))
   refine zO [.tmp 6] [(.bool true)] rfl rfl ⟨by kernel_rfl, trivial⟩ ?_
   have e0 : true = wrongB s p r := by (unfold wrongB; simp_all; done)
   exact ⟨congrArg Value.bool e0, hb⟩
 ·intro h7
  replace h7 : r ≠ 65533 := by omega
  refine zI (K11 yC (K11 yC (K11 yC (K11 yC (K11 yC (K11 yC (K11 yC (K11 yV (zJ (zE (zA (zX ?_))))))))))))
  refine zO [.tmp 6] [(.bool false)] rfl rfl ⟨by kernel_rfl, trivial⟩ ?_
  have e0 : false = wrongB s p r := by (simp [wrongB, *]; done)
  exact ⟨congrArg Value.bool e0, hb⟩
theorem c_lines_Check (s : List UInt8) (w : World) (hs : s.length ≤ 1073741824) :
  Calls Tryz.prog 92 #[(S s)] w (Ret fun v w' => v = (.tuple #[(.int .i64 (((chkF s).1 : Nat) : Int)), (.int .i64 ((chkF s).2))]) ∧ Below w.heap.size w w') := by
 refine K11 (enter (args := [(S s)]) Tryz.func92 rfl (by kernel_rfl : _ = 35)) ?_
 have hb := Below.refl w.heap.size w
 have hs : w.heap.size ≤ w.heap.size := Nat.le_refl _
 refine zF (zD (zJ (zJ (zE (zA (zF (zD (zJ (zE (zA (zF (zF (zD (zI (K11 (L_range s Tryz.underlying9) ?_)))))))))))))))
 intro b1 w2 hN3
 have g_it8 : w.heap.size ≤ b1 := by rw [hN3.num]; exact hs
 replace hb := hb.trans (hN3.below.mono hs)
 replace hs := Nat.le_trans hs (hN3.below.size)
 have o_it8 := hN3.here
 refine zE (zA (yP ?_))
 refine W_loop (fun m s0 w0 => ∃ (pos : Nat) (n : Nat), (m = s.length - pos) ∧ (s0.ds = []) ∧ (s0.f 0 = (S s)) ∧ (s0.f 8 = (.pointer (some ⟨b1, 0, none⟩))) ∧ (s0.f 4 = (.int .i64 ((n : Nat) : Int))) ∧ (w0.heap[b1]? = some (.stringIter ⟨(s).toArray⟩ pos)) ∧ (Below w.heap.size w w0) ∧ (w.heap.size ≤ w0.heap.size) ∧ (pos ≤ s.length) ∧ (n ≤ pos) ∧ (n ≤ 4096) ∧ (chkL (charsFrom s pos) n = chkF s)) _ ⟨0, 0, rfl, by kernel_rfl, by kernel_rfl, by kernel_rfl, by kernel_rfl, o_it8, hb, hs, by omega, by omega, by omega, rfl⟩ ?_
 rintro m4 s5 w6 ⟨pos, n, hm, hds, f_0, f_8, f_4, o_it8, hb, hs, i1, i2, i4, i3⟩
 refine yK 0 _ f_0 (yK 8 _ f_8 (yK 4 _ f_4 ?_))
 clear f_0 f_8 f_4
 refine zF (zD ?_)
 rcases Nat.lt_or_ge pos (s).length with lt_it8 | ge_it8
 ·refine K13 (L_next s b1 pos) o_it8 lt_it8 ?_
  intro c_it8 w7 ch_it8 hW8
  replace hb := hb.trans (hW8.below g_it8)
  replace hs := Nat.le_trans hs (Nat.le_of_eq hW8.size.symm)
  replace o_it8 := hW8.here
  have := dec_pos s pos; have := dec_fits s pos lt_it8; have := dec_le s pos
  have c_it8_0 : 0 ≤ c_it8 := by omega
  have c_it8_1 : c_it8 ≤ 2147483647 := by omega
  refine K21 (zQ (.bool true)) (zE (zA (zF (K11 zS (zV (zA (yP (zF (zD (K21 (zQ (.int .i64 ((pos : Nat) : Int))) (K21 (zQ (.int .i32 c_it8)) (zJ (zJ (zE (zA (zF (yP (zF (zD (zI (K22 (yD .i64 ((n : Nat) : Int) ((4096 : Nat) : Int) (n = 4096) rfl (cmpN_eq n 4096)) ?_ ?_)))))))))))))))))))))
  ·intro h9
   replace h9 : n = 4096 := by omega
   refine zJ (zE (zA (K11 zS (zF (zD (zI (zJ (zJ (zE (zA (zX (zU (zH (zU (zH (zU (zH ?_)))))))))))))))))
   refine zO [.tmp 2, .tmp 3] [(.int .i64 ((n : Nat) : Int)), (.int .i64 32)] rfl hds ⟨by kernel_rfl, by kernel_rfl, trivial⟩ ?_
   have hE : (n = (chkF s).1) ∧ ((32 : Int) = (chkF s).2) := ⟨(by (rw [← i3, (by assumption : n = 4096), chk_wide lt_it8]; done)), (by (rw [← i3, (by assumption : n = 4096), chk_wide lt_it8]; done))⟩
   exact ⟨xG (congrArg (fun x : Nat => Value.int .i64 (x : Int)) hE.1) (congrArg (Value.int .i64) hE.2), hb⟩
  ·intro h10
   replace h10 : n ≠ 4096 := by omega
   refine zJ (zE (zA (K11 zN (zF (zD (zI (zI (zI (K22 (yA 128 [(S s), (.int .i64 ((pos : Nat) : Int)), (.int .i32 c_it8)]) (c_lines_wrong s pos c_it8 _ (by omega)) ?_)))))))))
   rintro _ w11 ⟨rfl, hB12⟩
   replace hb := hb.trans (hB12.mono hs)
   replace hs := Nat.le_trans hs (hB12.size)
   replace o_it8 := zB o_it8 hB12
   refine xK (wrongB s pos c_it8) ?_ ?_
   ·intro h14
    refine zJ (zE (zA (K11 zS (zF (zD (zI (zJ (zJ (zE (zA (zX (zU (zH (zU (zH (zU (zH ?_)))))))))))))))))
    refine zO [.tmp 2, .tmp 3] [(.int .i64 ((n : Nat) : Int)), (.int .i64 30)] rfl hds ⟨by kernel_rfl, by kernel_rfl, trivial⟩ ?_
    have hE : (n = (chkF s).1) ∧ ((30 : Int) = (chkF s).2) := ⟨(by (rw [← i3, chk_wrong (n := n) lt_it8 (by omega) (by rw [← ch_it8]; assumption)]; done)), (by (rw [← i3, chk_wrong (n := n) lt_it8 (by omega) (by rw [← ch_it8]; assumption)]; done))⟩
    exact ⟨xG (congrArg (fun x : Nat => Value.int .i64 (x : Int)) hE.1) (congrArg (Value.int .i64) hE.2), hb⟩
   ·intro h15
    refine zJ (zE (zA (K11 zN (zF (zF (zD (zI (K22 (yD .i32 c_it8 32 (c_it8 < 32) rfl (cmp_lt c_it8 32)) ?_ ?_))))))))
    ·intro h16
     replace h16 : c_it8 < 32 := by omega
     refine zI (K11 zY (zI (K11 zY (K22 (yD .i32 c_it8 9 (c_it8 ≠ 9) rfl (cmp_ne c_it8 9)) ?_ ?_))))
     ·intro h17
      replace h17 : c_it8 ≠ 9 := by omega
      refine K11 yU (zJ (zE (zA (K11 zS (zV (zA (K11 zS (zF (zD (zI (zJ (zJ (zE (zA (zX (zU (zH (zU (zH (zU (zH ?_)))))))))))))))))))))
      refine zO [.tmp 2, .tmp 3] [(.int .i64 ((n : Nat) : Int)), (.int .i64 31)] rfl hds ⟨by kernel_rfl, by kernel_rfl, trivial⟩ ?_
      have hE : (n = (chkF s).1) ∧ ((31 : Int) = (chkF s).2) := ⟨(by (rw [← i3, chk_ctl (n := n) lt_it8 (by omega) (by rw [← ch_it8]; assumption) (by omega)]; done)), (by (rw [← i3, chk_ctl (n := n) lt_it8 (by omega) (by rw [← ch_it8]; assumption) (by omega)]; done))⟩
      exact ⟨xG (congrArg (fun x : Nat => Value.int .i64 (x : Int)) hE.1) (congrArg (Value.int .i64) hE.2), hb⟩
     ·intro h18
      replace h18 : c_it8 = 9 := by omega
      refine K11 yU (zJ (zE (zA (K11 zN (zD (zI (K22 (yD .i32 c_it8 127 (c_it8 = 127) rfl (xB c_it8 127)) ?_ ?_)))))))
      ·intro h19
       replace h19 : c_it8 = 127 := by omega
       refine zJ (zE (zA (K11 zS (zF (zD (zI (zJ (zJ (zE (zA (zX (zU (zH (zU (zH (zU (zH ?_)))))))))))))))))
       refine zO [.tmp 2, .tmp 3] [(.int .i64 ((n : Nat) : Int)), (.int .i64 31)] rfl hds ⟨by kernel_rfl, by kernel_rfl, trivial⟩ ?_
       have hE : (n = (chkF s).1) ∧ ((31 : Int) = (chkF s).2) := ⟨(by (rw [← i3, chk_ctl (n := n) lt_it8 (by omega) (by rw [← ch_it8]; assumption) (by omega)]; done)), (by (rw [← i3, chk_ctl (n := n) lt_it8 (by omega) (by rw [← ch_it8]; assumption) (by omega)]; done))⟩
       exact ⟨xG (congrArg (fun x : Nat => Value.int .i64 (x : Int)) hE.1) (congrArg (Value.int .i64) hE.2), hb⟩
      ·intro h20
       replace h20 : c_it8 ≠ 127 := by omega
       refine zJ (zE (zA (K11 zN (zV (zP (zA (zD (zI (K21 (xD n 1 (by omega)) (zJ (zE (zP ?_))))))))))))
       refine zA ⟨_, ?_, (pos + (dec s pos).2), (n + 1), rfl, hds, by kernel_rfl, by kernel_rfl, by kernel_rfl, o_it8, hb, hs, ?_, ?_, ?_, ?_⟩
       ·omega
       ·omega
       ·omega
       ·omega
       ·rw [← chk_on (n := n) lt_it8 (by omega) (by rw [← ch_it8]; assumption) (by omega)]; exact i3
    ·intro h21
     replace h21 : 32 ≤ c_it8 := by omega
     refine zI (K11 yC (K11 yC (K11 yV (zJ (zE (zA (K11 zN (zD (zI (K22 (yD .i32 c_it8 127 (c_it8 = 127) rfl (xB c_it8 127)) ?_ ?_))))))))))
     ·intro h22
      replace h22 : c_it8 = 127 := by omega
      refine zJ (zE (zA (K11 zS (zF (zD (zI (zJ (zJ (zE (zA (zX (zU (zH (zU (zH (zU (zH ?_)))))))))))))))))
      refine zO [.tmp 2, .tmp 3] [(.int .i64 ((n : Nat) : Int)), (.int .i64 31)] rfl hds ⟨by kernel_rfl, by kernel_rfl, trivial⟩ ?_
      have hE : (n = (chkF s).1) ∧ ((31 : Int) = (chkF s).2) := ⟨(by (rw [← i3, chk_ctl (n := n) lt_it8 (by omega) (by rw [← ch_it8]; assumption) (by omega)]; done)), (by (rw [← i3, chk_ctl (n := n) lt_it8 (by omega) (by rw [← ch_it8]; assumption) (by omega)]; done))⟩
      exact ⟨xG (congrArg (fun x : Nat => Value.int .i64 (x : Int)) hE.1) (congrArg (Value.int .i64) hE.2), hb⟩
     ·intro h23
      replace h23 : c_it8 ≠ 127 := by omega
      refine zJ (zE (zA (K11 zN (zV (zP (zA (zD (zI (K21 (xD n 1 (by omega)) (zJ (zE (zP ?_))))))))))))
      refine zA ⟨_, ?_, (pos + (dec s pos).2), (n + 1), rfl, hds, by kernel_rfl, by kernel_rfl, by kernel_rfl, o_it8, hb, hs, ?_, ?_, ?_, ?_⟩
      ·omega
      ·omega
      ·omega
      ·omega
      ·rw [← chk_on (n := n) lt_it8 (by omega) (by rw [← ch_it8]; assumption) (by omega)]; exact i3
 ·refine K13 (L_nextEnd s b1 pos) o_it8 ge_it8 (K21 (zQ (.bool false)) (zE (zA (zF (K11 zN (W_exit (yM (yM (xM (zA (zF (zD (zJ (zJ (zE (zA (zX ?_)))))))))))))))))
  refine zO [.tmp 2, .tmp 3] [(.int .i64 0), (.int .i64 0)] rfl hds ⟨by kernel_rfl, by kernel_rfl, trivial⟩ ?_
  have hE : (0 = (chkF s).1) ∧ ((0 : Int) = (chkF s).2) := ⟨(by (rw [← i3, chk_end (by omega)]; done)), (by (rw [← i3, chk_end (by omega)]; done))⟩
  exact ⟨xG (congrArg (fun x : Nat => Value.int .i64 (x : Int)) hE.1) (congrArg (Value.int .i64) hE.2), hb⟩
theorem c_lines_fields (s : List UInt8) (w : World) (hs : s.length ≤ 1073741824) :
  Calls Tryz.prog 98 #[(S s)] w (Ret fun v w' => ∃ (q0 : Value), v = q0 ∧ Row w' w.heap.size 9 1 encStr q0 (fieldsF s) ∧ Below w.heap.size w w') := by
 refine K11 (enter (args := [(S s)]) Tryz.func98 rfl (by kernel_rfl : _ = 37)) ?_
 have hb := Below.refl w.heap.size w
 have hs : w.heap.size ≤ w.heap.size := Nat.le_refl _
 refine zF (zD (zJ (zE (zA ?_))))
 refine W_scope (fun l m s0 w0 => (l = 1 ∧ ∃ (acc : List (List UInt8)) (fr : Nat) (at_ : Nat) (v_3 : Value), (m = 3 * (s.length - at_) + 2) ∧ (s0.ds = []) ∧ (s0.f 0 = (S s)) ∧ (s0.f 3 = v_3) ∧ (s0.f 4 = (.int .i64 ((fr : Nat) : Int))) ∧ (s0.f 5 = (.int .i64 ((at_ : Nat) : Int))) ∧ (Row w0 w.heap.size 9 1 encStr v_3 acc) ∧ (Below w.heap.size w w0) ∧ (w.heap.size ≤ w0.heap.size) ∧ (fr ≤ at_) ∧ (at_ ≤ s.length) ∧ (noB 59 s fr at_) ∧ (acc ++ (splF 59 (s.drop fr)).map trmF = (splF 59 s).map trmF) ∧ (trmF s ≠ []) ∧ (acc.length ≤ at_)) ∨ (l = 2 ∧ ∃ (acc : List (List UInt8)) (fr : Nat) (at_ : Nat) (v_3 : Value), (m = 3 * (s.length - at_) + 1) ∧ (s0.ds = []) ∧ (s0.f 0 = (S s)) ∧ (s0.f 3 = v_3) ∧ (s0.f 4 = (.int .i64 ((fr : Nat) : Int))) ∧ (s0.f 5 = (.int .i64 ((at_ : Nat) : Int))) ∧ (Row w0 w.heap.size 9 1 encStr v_3 acc) ∧ (Below w.heap.size w w0) ∧ (w.heap.size ≤ w0.heap.size) ∧ (fr ≤ at_) ∧ (at_ ≤ s.length) ∧ (noB 59 s fr at_) ∧ (acc ++ (splF 59 (s.drop fr)).map trmF = (splF 59 s).map trmF) ∧ (trmF s ≠ []) ∧ (acc.length ≤ at_) ∧ (∃ c : UInt8, s[at_]? = some c ∧ c.toNat = 59) ∧ (at_ < s.length)) ∨ (l = 0 ∧ ∃ (acc : List (List UInt8)) (fr : Nat) (at_ : Nat) (v_3 : Value), (m = 0) ∧ (s0.ds = []) ∧ (s0.f 0 = (S s)) ∧ (s0.f 3 = v_3) ∧ (s0.f 4 = (.int .i64 ((fr : Nat) : Int))) ∧ (s0.f 5 = (.int .i64 ((at_ : Nat) : Int))) ∧ (Row w0 w.heap.size 9 1 encStr v_3 acc) ∧ (Below w.heap.size w w0) ∧ (w.heap.size ≤ w0.heap.size) ∧ (fr ≤ at_) ∧ (at_ ≤ s.length) ∧ (noB 59 s fr at_) ∧ (acc ++ (splF 59 (s.drop fr)).map trmF = (splF 59 s).map trmF) ∧ (trmF s ≠ []) ∧ (acc.length ≤ at_) ∧ (at_ = s.length))) ?_ ?_
 ·refine zF (zD (zJ (zE (zA (zF (zD (zJ (zJ (zE (zA (zF (zF (zD (zI (K22 (yA 95 [(S s)]) (c_lines_trim s _ (by omega)) ?_)))))))))))))))
  rintro _ w1 ⟨rfl, hB2⟩
  replace hb := hb.trans (hB2.mono hs)
  replace hs := Nat.le_trans hs (hB2.size)
  have := trm_len s
  refine K22 (L_seq (trmF s) ([] : List UInt8) rfl) ?_ ?_
  ·intro h4
   refine zE (zA (K11 zS (zF (zD (zJ (zE (zA (zX (zH (jmpQ_ret ?_))))))))))
   refine zO [.tmp 2] [(.slice none 0 0)] rfl rfl ⟨by kernel_rfl, trivial⟩ ?_
   have e51 : ([] : List (List UInt8)) = fieldsF s := by exact (fields_nil (by assumption)).symm
   exact ⟨(.slice none 0 0), rfl, (Row.nil _ _ _ _ _).cast e51, hb⟩
  ·intro h5
   refine zE (zA (K11 zN (zV (zA (zF (W_label (zA (zF (zF (zD (zI (zI (K11 (L_slen 9 s rfl Tryz.underlying9) (K22 (yD .i64 ((0 : Nat) : Int) (((s).length : Nat) : Int) (0 = (s).length) rfl (cmpN_eq 0 ((s).length))) ?_ ?_))))))))))))))
   ·intro h6
    replace h6 : 0 = (s).length := by omega
    refine zE (zA (K11 zS (W_goto (thenQ_goto (jmpQ_goto ?_)))))
    refine ⟨_, Or.inr (Or.inr (⟨rfl, [], 0, 0, (.slice none 0 0), rfl, rfl, by kernel_rfl, by kernel_rfl, by kernel_rfl, by kernel_rfl, Row.nil _ _ _ _ _, hb, hs, ?_, ?_, ?_, ?_, ?_, ?_, ?_⟩))⟩
    ·omega
    ·omega
    ·exact noB_zero _ _ _
    ·rfl
    ·first | assumption | exact i4
    ·(simp only [List.length_append, List.length_cons, List.length_nil]; omega)
    ·omega
   ·intro h7
    replace h7 : 0 ≠ (s).length := by omega
    refine zE (zA (K11 zN (zV (zA (zF (zF (zD (zI (zI ?_)))))))))
    have hz := yT s 0 (by omega); obtain ⟨c8, hc9⟩ := hz
    have := c8.toNat_lt
    refine K21 (L_sindex (k := .i64) s 0 c8 Tryz.underlying9 hc9) (K22 (yD .u8 ((c8.toNat : Nat) : Int) ((59 : Nat) : Int) (c8.toNat = 59) rfl (cmpN_eq c8.toNat 59)) ?_ ?_)
    ·intro h10
     replace h10 : c8.toNat = 59 := by omega
     refine zE (zA (K11 zS (W_goto (thenQ_goto (jmpQ_goto ?_)))))
     refine ⟨_, Or.inr (Or.inl (⟨rfl, [], 0, 0, (.slice none 0 0), rfl, rfl, by kernel_rfl, by kernel_rfl, by kernel_rfl, by kernel_rfl, Row.nil _ _ _ _ _, hb, hs, ?_, ?_, ?_, ?_, ?_, ?_, ?_, ?_⟩))⟩
     ·omega
     ·omega
     ·exact noB_zero _ _ _
     ·rfl
     ·first | assumption | exact i4
     ·(simp only [List.length_append, List.length_cons, List.length_nil]; omega)
     ·exact ⟨_, by assumption, by assumption⟩
     ·omega
    ·intro h11
     replace h11 : c8.toNat ≠ 59 := by omega
     refine zE (zA (K11 zN (zV (zA (zF (zD (zI (K21 (xD 0 1 (by omega)) (zJ (zE (zA (zF (W_goto (thenQ_goto (jmpQ_goto ?_)))))))))))))))
     refine ⟨_, Or.inl (⟨rfl, [], 0, 1, (.slice none 0 0), rfl, rfl, by kernel_rfl, by kernel_rfl, by kernel_rfl, by kernel_rfl, Row.nil _ _ _ _ _, hb, hs, ?_, ?_, ?_, ?_, ?_, ?_⟩)⟩
     ·omega
     ·omega
     ·exact noB_succ (noB_zero _ _ _) (by assumption) (by assumption)
     ·rfl
     ·first | assumption | exact i4
     ·(simp only [List.length_append, List.length_cons, List.length_nil]; omega)
 ·rintro l m14 s12 w13 (⟨rfl, acc, fr, at_, v_3, hm, hds, f_0, f_3, f_4, f_5, r_3, hb, hs, i0, i1, i2, i3, i4, i5⟩ | ⟨rfl, acc, fr, at_, v_3, hm, hds, f_0, f_3, f_4, f_5, r_3, hb, hs, i0, i1, i2, i3, i4, i5, i6, i7⟩ | ⟨rfl, acc, fr, at_, v_3, hm, hds, f_0, f_3, f_4, f_5, r_3, hb, hs, i0, i1, i2, i3, i4, i5, i6⟩)
  ·skip
   refine ⟨_, rfl, ?_⟩
   refine yK 0 _ f_0 (yK 3 _ f_3 (yK 4 _ f_4 (yK 5 _ f_5 ?_)))
   clear f_0 f_3 f_4 f_5
   refine zF (zV (zA (zF (zF (zD (zI (zI (K11 (L_slen 9 s rfl Tryz.underlying9) (K22 (yD .i64 ((at_ : Nat) : Int) (((s).length : Nat) : Int) (at_ = (s).length) rfl (cmpN_eq at_ ((s).length))) ?_ ?_)))))))))
   ·intro h15
    replace h15 : at_ = (s).length := by omega
    refine zE (zA (K11 zS (W_goto (thenQ_goto (jmpQ_goto ?_)))))
    refine ⟨_, ?_, Or.inr (Or.inr (⟨rfl, acc, fr, at_, v_3, rfl, hds, by kernel_rfl, by kernel_rfl, by kernel_rfl, by kernel_rfl, r_3, hb, hs, ?_, ?_, ?_, ?_, ?_, ?_, ?_⟩))⟩
    ·omega
    ·omega
    ·omega
    ·assumption
    ·assumption
    ·first | assumption | exact i4
    ·omega
    ·omega
   ·intro h16
    replace h16 : at_ ≠ (s).length := by omega
    refine zE (zA (K11 zN (zV (zA (zF (zF (zD (zI (zI ?_)))))))))
    have hz := yT s at_ (by omega); obtain ⟨c17, hc18⟩ := hz
    have := c17.toNat_lt
    refine K21 (L_sindex (k := .i64) s at_ c17 Tryz.underlying9 hc18) (K22 (yD .u8 ((c17.toNat : Nat) : Int) ((59 : Nat) : Int) (c17.toNat = 59) rfl (cmpN_eq c17.toNat 59)) ?_ ?_)
    ·intro h19
     replace h19 : c17.toNat = 59 := by omega
     refine zE (zA (K11 zS (W_goto (thenQ_goto (jmpQ_goto ?_)))))
     refine ⟨_, ?_, Or.inr (Or.inl (⟨rfl, acc, fr, at_, v_3, rfl, hds, by kernel_rfl, by kernel_rfl, by kernel_rfl, by kernel_rfl, r_3, hb, hs, ?_, ?_, ?_, ?_, ?_, ?_, ?_, ?_⟩))⟩
     ·omega
     ·omega
     ·omega
     ·assumption
     ·assumption
     ·first | assumption | exact i4
     ·omega
     ·exact ⟨_, by assumption, by assumption⟩
     ·omega
    ·intro h20
     replace h20 : c17.toNat ≠ 59 := by omega
     refine zE (zA (K11 zN (zV (zA (zF (zD (zI (K21 (xD at_ 1 (by omega)) (zJ (zE (zA (zF (W_goto (thenQ_goto (jmpQ_goto ?_)))))))))))))))
     refine ⟨_, ?_, Or.inl (⟨rfl, acc, fr, (at_ + 1), v_3, rfl, hds, by kernel_rfl, by kernel_rfl, by kernel_rfl, by kernel_rfl, r_3, hb, hs, ?_, ?_, ?_, ?_, ?_, ?_⟩)⟩
     ·omega
     ·omega
     ·omega
     ·exact noB_succ i2 (by assumption) (by assumption)
     ·assumption
     ·first | assumption | exact i4
     ·omega
  ·skip
   refine ⟨_, rfl, ?_⟩
   refine yK 0 _ f_0 (yK 3 _ f_3 (yK 4 _ f_4 (yK 5 _ f_5 ?_)))
   clear f_0 f_3 f_4 f_5
   obtain ⟨c0, hc0, hc1⟩ := i6
   refine zF (zV (zA (zF (zD (zI (zI (zI (zI (K15 (L_sslice s fr at_ Tryz.underlying9) ⟨.i64, by kernel_rfl⟩ ⟨.i64, by kernel_rfl⟩ (by omega) (by omega) (K22 (yA 95 [(S (List.drop fr (List.take at_ s)))]) (c_lines_trim (List.drop fr (List.take at_ s)) _ (by (simp only [List.length_drop, List.length_take]; omega))) ?_))))))))))
   rintro _ w21 ⟨rfl, hB22⟩
   replace hb := hb.trans (hB22.mono hs)
   replace hs := Nat.le_trans hs (hB22.size)
   replace r_3 := r_3.below hB22
   have := trm_len (List.drop fr (List.take at_ s))
   refine K21 (L_app el70 w.heap.size v_3 acc (trmF (List.drop fr (List.take at_ s))) hs r_3 (by omega) (by kernel_rfl) rfl rfl (by kernel_rfl) rfl) ?_
   intro v24 w25 hr26 hg27 how28
   replace hb := hb.grown hg27 hs (fun k hk => (World.ownsRow.lt r_3 k hk).1)
   replace hs := Nat.le_trans hs (hg27.size)
   replace r_3 := hr26
   refine zJ (zE (zA (zF (zD (zI (K21 (xD at_ 1 (by omega)) (zJ (zE (zA (zF (zD (zI (zJ (zE (zA (zF (W_goto (thenQ_goto (jmpQ_goto ?_)))))))))))))))))))
   refine ⟨_, ?_, Or.inl (⟨rfl, (acc ++ [(trmF (List.drop fr (List.take at_ s)))]), (at_ + 1), (at_ + 1), v24, rfl, hds, by kernel_rfl, by kernel_rfl, by kernel_rfl, by kernel_rfl, r_3, hb, hs, ?_, ?_, ?_, ?_, ?_, ?_⟩)⟩
   ·omega
   ·omega
   ·omega
   ·exact noB_zero _ _ _
   ·exact fld_hit i2 i0 hc0 hc1 i3
   ·first | assumption | exact i4
   ·(simp only [List.length_append, List.length_cons, List.length_nil]; omega)
  ·skip
   refine ⟨_, rfl, ?_⟩
   refine yK 0 _ f_0 (yK 3 _ f_3 (yK 4 _ f_4 (yK 5 _ f_5 ?_)))
   clear f_0 f_3 f_4 f_5
   refine zF (zV (zA (zF (zD (zI (zI (zI (K13 (L_ssfrom s fr Tryz.underlying9) ⟨.i64, by kernel_rfl⟩ (by omega) (K22 (yA 95 [(S (List.drop fr s))]) (c_lines_trim (List.drop fr s) _ (by (simp only [List.length_drop, List.length_take]; omega))) ?_)))))))))
   rintro _ w29 ⟨rfl, hB30⟩
   replace hb := hb.trans (hB30.mono hs)
   replace hs := Nat.le_trans hs (hB30.size)
   replace r_3 := r_3.below hB30
   have := trm_len (List.drop fr s)
   refine K21 (L_app el70 w.heap.size v_3 acc (trmF (List.drop fr s)) hs r_3 (by omega) (by kernel_rfl) rfl rfl (by kernel_rfl) rfl) ?_
   intro v32 w33 hr34 hg35 how36
   replace hb := hb.grown hg35 hs (fun k hk => (World.ownsRow.lt r_3 k hk).1)
   replace hs := Nat.le_trans hs (hg35.size)
   replace r_3 := hr34
   refine zJ (zE (zA (zX (jmpQ_ret ?_))))
   refine zO [.tmp 2] [v32] rfl hds ⟨by kernel_rfl, trivial⟩ ?_
   have e51 : (acc ++ [(trmF (List.drop fr s))]) = fieldsF s := by exact fld_end i2 (by omega) i3 i4
   exact ⟨v32, rfl, r_3.cast e51, hb⟩
theorem c_lines_Cut (s : List UInt8) (w : World) (hs : s.length ≤ 1073741824) :
  Calls Tryz.prog 93 #[(S s)] w (Ret fun v w' => ∃ (q0 : Value), v = (.tuple #[q0, (S ((cutF s).2))]) ∧ Row w' w.heap.size 9 1 encStr q0 ((cutF s).1) ∧ Below w.heap.size w w') := by
 refine K11 (enter (args := [(S s)]) Tryz.func93 rfl (by kernel_rfl : _ = 17)) ?_
 have hb := Below.refl w.heap.size w
 have hs : w.heap.size ≤ w.heap.size := Nat.le_refl _
 refine zF (zD (zJ (zJ (zE (zA (zF (zD (zI (K22 (yA 94 [(S s), (S ([35] : List UInt8))]) (c_strings_Cut s ([35] : List UInt8) _ (by first | omega | decide | rfl) (by first | omega | decide | rfl)) ?_)))))))))
 rintro _ w1 ⟨rfl, hB2⟩
 replace hb := hb.trans (hB2.mono hs)
 replace hs := Nat.le_trans hs (hB2.size)
 have := cutl_len s ([35] : List UInt8)
 refine zI (K21 (zQ (S ((Lib.cut s ([35] : List UInt8)).1))) (K21 (zQ (S ((Lib.cut s ([35] : List UInt8)).2.1))) (K21 (zQ (.bool ((Lib.cut s ([35] : List UInt8)).2.2))) (zJ (zJ (zJ (zE (zA (zF (zD (zI (K22 (yA 98 [(S ((Lib.cut s ([35] : List UInt8)).1))]) (c_lines_fields ((Lib.cut s ([35] : List UInt8)).1) _ (by first | omega | decide | rfl)) ?_))))))))))))
 rintro q4 w5 ⟨_, rfl, r_q4, hB6⟩
 replace r_q4 := r_q4.base hs
 replace hb := hb.trans (hB6.mono hs)
 replace hs := Nat.le_trans hs (hB6.size)
 refine zI (K22 (yA 95 [(S ((Lib.cut s ([35] : List UInt8)).2.1))]) (c_lines_trim ((Lib.cut s ([35] : List UInt8)).2.1) _ (by first | omega | decide | rfl)) ?_)
 rintro _ w8 ⟨rfl, hB9⟩
 replace hb := hb.trans (hB9.mono hs)
 replace hs := Nat.le_trans hs (hB9.size)
 replace r_q4 := r_q4.below hB9
 have := trm_len ((Lib.cut s ([35] : List UInt8)).2.1)
 refine zJ (zJ (zE (zA (zX ?_))))
 refine zO [.tmp 2, .tmp 3] [q4, (S (trmF ((Lib.cut s ([35] : List UInt8)).2.1)))] rfl rfl ⟨by kernel_rfl, by kernel_rfl, trivial⟩ ?_
 have hE : ((trmF ((Lib.cut s ([35] : List UInt8)).2.1)) = (cutF s).2) ∧ (fieldsF ((Lib.cut s ([35] : List UInt8)).1) = (cutF s).1) := ⟨(by rfl), (by rfl)⟩
 exact ⟨q4, xG (rfl) (congrArg S hE.1), r_q4.cast hE.2, hb⟩
theorem c_lines_named (s : List UInt8) (w : World) (hs : s.length ≤ 1073741824) :
  Calls Tryz.prog 97 #[(S s)] w (Ret fun v w' => v = (.bool (nameF s)) ∧ Below w.heap.size w w') := by
 refine K11 (enter (args := [(S s)]) Tryz.func97 rfl (by kernel_rfl : _ = 35)) ?_
 have hb := Below.refl w.heap.size w
 have hs : w.heap.size ≤ w.heap.size := Nat.le_refl _
 refine zF (zD (zJ (zE (zA (zF (zF (zD (zI (K11 (L_range s Tryz.underlying9) ?_)))))))))
 intro b1 w2 hN3
 have g_it6 : w.heap.size ≤ b1 := by rw [hN3.num]; exact hs
 replace hb := hb.trans (hN3.below.mono hs)
 replace hs := Nat.le_trans hs (hN3.below.size)
 have o_it6 := hN3.here
 refine zE (zA (yP ?_))
 refine W_loop (fun m s0 w0 => ∃ (pos : Nat), (m = s.length - pos) ∧ (s0.ds = []) ∧ (s0.f 0 = (S s)) ∧ (s0.f 6 = (.pointer (some ⟨b1, 0, none⟩))) ∧ (w0.heap[b1]? = some (.stringIter ⟨(s).toArray⟩ pos)) ∧ (Below w.heap.size w w0) ∧ (w.heap.size ≤ w0.heap.size) ∧ (pos ≤ s.length) ∧ ((s.drop pos).all nmB = s.all nmB)) _ ⟨0, rfl, by kernel_rfl, by kernel_rfl, by kernel_rfl, o_it6, hb, hs, by omega, rfl⟩ ?_
 rintro m4 s5 w6 ⟨pos, hm, hds, f_0, f_6, o_it6, hb, hs, i1, i3⟩
 refine yK 0 _ f_0 (yK 6 _ f_6 ?_)
 clear f_0 f_6
 refine zF (zD ?_)
 rcases Nat.lt_or_ge pos (s).length with lt_it6 | ge_it6
 ·refine K13 (L_next s b1 pos) o_it6 lt_it6 ?_
  intro c_it6 w7 ch_it6 hW8
  replace hb := hb.trans (hW8.below g_it6)
  replace hs := Nat.le_trans hs (Nat.le_of_eq hW8.size.symm)
  replace o_it6 := hW8.here
  have := dec_pos s pos; have := dec_fits s pos lt_it6; have := dec_le s pos
  have c_it6_0 : 0 ≤ c_it6 := by omega
  have c_it6_1 : c_it6 ≤ 2147483647 := by omega
  refine K21 (zQ (.bool true)) (zE (zA (zF (K11 zS (zV (zA (yP (zF (zD (K21 (zQ (.int .i32 c_it6)) (zJ (zE (zA (yP (zF (zF (zD (zI (K22 (yD .i32 c_it6 65 (65 ≤ c_it6) rfl (cmp_ge c_it6 65)) ?_ ?_)))))))))))))))))))
  ·intro h9
   replace h9 : 65 ≤ c_it6 := by omega
   refine zI (K11 zY (zI (K11 zY (K22 (yD .i32 c_it6 90 (c_it6 ≤ 90) rfl (cmp_le c_it6 90)) ?_ ?_))))
   ·intro h10
    replace h10 : c_it6 ≤ 90 := by omega
    refine K11 yU (zJ (zE (zA (K11 zS (zV (zA (K11 zS (zV (zP (zP ?_))))))))))
    refine zA ⟨_, ?_, (pos + (dec s pos).2), rfl, hds, by kernel_rfl, by kernel_rfl, o_it6, hb, hs, ?_, ?_⟩
    ·omega
    ·omega
    ·exact nm_on lt_it6 (by omega) i3
   ·intro h11
    replace h11 : 90 < c_it6 := by omega
    refine K11 yU (zJ (zE (zA (K11 zN (zF (zD (zI (K22 (yD .i32 c_it6 97 (97 ≤ c_it6) rfl (cmp_ge c_it6 97)) ?_ ?_))))))))
    ·intro h12
     replace h12 : 97 ≤ c_it6 := by omega
     refine zI (K11 zY (zI (K11 zY (K22 (yD .i32 c_it6 122 (c_it6 ≤ 122) rfl (cmp_le c_it6 122)) ?_ ?_))))
     ·intro h13
      replace h13 : c_it6 ≤ 122 := by omega
      refine K11 yU (zJ (zE (zA (K11 zS (zV (zA (K11 zS (zV (zP (zP ?_))))))))))
      refine zA ⟨_, ?_, (pos + (dec s pos).2), rfl, hds, by kernel_rfl, by kernel_rfl, o_it6, hb, hs, ?_, ?_⟩
      ·omega
      ·omega
      ·exact nm_on lt_it6 (by omega) i3
     ·intro h14
      replace h14 : 122 < c_it6 := by omega
      refine K11 yU (zJ (zE (zA (K11 zN (zF (zD (zI (K22 (yD .i32 c_it6 48 (48 ≤ c_it6) rfl (cmp_ge c_it6 48)) ?_ ?_))))))))
      ·intro h15
       replace h15 : 48 ≤ c_it6 := by omega
       refine zI (K11 zY (zI (K11 zY (K22 (yD .i32 c_it6 57 (c_it6 ≤ 57) rfl (cmp_le c_it6 57)) ?_ ?_))))
       ·intro h16
        replace h16 : c_it6 ≤ 57 := by omega
        refine K11 yU (zJ (zE (zA (K11 zS (zV (zA (K11 zS (zV (zP (zP ?_))))))))))
        refine zA ⟨_, ?_, (pos + (dec s pos).2), rfl, hds, by kernel_rfl, by kernel_rfl, o_it6, hb, hs, ?_, ?_⟩
        ·omega
        ·omega
        ·exact nm_on lt_it6 (by omega) i3
       ·intro h17
        replace h17 : 57 < c_it6 := by omega
        refine K11 yU (zJ (zE (zA (K11 zN (zF (zD (zI (K22 (yD .i32 c_it6 95 (c_it6 = 95) rfl (xB c_it6 95)) ?_ ?_))))))))
        ·intro h18
         replace h18 : c_it6 = 95 := by omega
         refine zJ (zE (zA (K11 zS (zV (zA (K11 zS (zV (zP (zP ?_)))))))))
         refine zA ⟨_, ?_, (pos + (dec s pos).2), rfl, hds, by kernel_rfl, by kernel_rfl, o_it6, hb, hs, ?_, ?_⟩
         ·omega
         ·omega
         ·exact nm_on lt_it6 (by omega) i3
        ·intro h19
         replace h19 : c_it6 ≠ 95 := by omega
         refine zJ (zE (zA (K11 zN (zD (zI (K22 (yD .i32 c_it6 45 (c_it6 = 45) rfl (xB c_it6 45)) ?_ ?_))))))
         ·intro h20
          replace h20 : c_it6 = 45 := by omega
          refine zJ (zE (zA (K11 zS (zV (zP (zP ?_))))))
          refine zA ⟨_, ?_, (pos + (dec s pos).2), rfl, hds, by kernel_rfl, by kernel_rfl, o_it6, hb, hs, ?_, ?_⟩
          ·omega
          ·omega
          ·exact nm_on lt_it6 (by omega) i3
         ·intro h21
          replace h21 : c_it6 ≠ 45 := by omega
          refine zJ (zE (zA (K11 zN (zF (zD (zJ (zE (zA (zX (zU (zU (zH (zU (zH ?_))))))))))))))
          refine zO [.tmp 2] [(.bool false)] rfl hds ⟨by kernel_rfl, trivial⟩ ?_
          have e0 : false = nameF s := by exact (nm_off lt_it6 (by omega) i3).symm
          exact ⟨congrArg Value.bool e0, hb⟩
      ·intro h22
       replace h22 : c_it6 < 48 := by omega
       refine zI (K11 yC (K11 yC (K11 yV (zJ (zE (zA (K11 zN (zF (zD (zI (K22 (yD .i32 c_it6 95 (c_it6 = 95) rfl (xB c_it6 95)) ?_ ?_)))))))))))
       ·intro h23
        replace h23 : c_it6 = 95 := by omega
        refine zJ (zE (zA (K11 zS (zV (zA (K11 zS (zV (zP (zP ?_)))))))))
        refine zA ⟨_, ?_, (pos + (dec s pos).2), rfl, hds, by kernel_rfl, by kernel_rfl, o_it6, hb, hs, ?_, ?_⟩
        ·omega
        ·omega
        ·exact nm_on lt_it6 (by omega) i3
       ·intro h24
        replace h24 : c_it6 ≠ 95 := by omega
        refine zJ (zE (zA (K11 zN (zD (zI (K22 (yD .i32 c_it6 45 (c_it6 = 45) rfl (xB c_it6 45)) ?_ ?_))))))
        ·intro h25
         replace h25 : c_it6 = 45 := by omega
         refine zJ (zE (zA (K11 zS (zV (zP (zP ?_))))))
         refine zA ⟨_, ?_, (pos + (dec s pos).2), rfl, hds, by kernel_rfl, by kernel_rfl, o_it6, hb, hs, ?_, ?_⟩
         ·omega
         ·omega
         ·exact nm_on lt_it6 (by omega) i3
        ·intro h26
         replace h26 : c_it6 ≠ 45 := by omega
         refine zJ (zE (zA (K11 zN (zF (zD (zJ (zE (zA (zX (zU (zU (zH (zU (zH ?_))))))))))))))
         refine zO [.tmp 2] [(.bool false)] rfl hds ⟨by kernel_rfl, trivial⟩ ?_
         have e0 : false = nameF s := by exact (nm_off lt_it6 (by omega) i3).symm
         exact ⟨congrArg Value.bool e0, hb⟩
    ·intro h27
     replace h27 : c_it6 < 97 := by omega
     refine zI (K11 yC (K11 yC (K11 yV (zJ (zE (zA (K11 zN (zF (zD (zI (K22 (yD .i32 c_it6 48 (48 ≤ c_it6) rfl (cmp_ge c_it6 48)) ?_ ?_)))))))))))
     ·intro h28
      replace h28 : 48 ≤ c_it6 := by omega
      refine zI (K11 zY (zI (K11 zY (K22 (yD .i32 c_it6 57 (c_it6 ≤ 57) rfl (cmp_le c_it6 57)) ?_ ?_))))
      ·intro h29
       replace h29 : c_it6 ≤ 57 := by omega
       refine K11 yU (zJ (zE (zA (K11 zS (zV (zA (K11 zS (zV (zP (zP ?_))))))))))
       refine zA ⟨_, ?_, (pos + (dec s pos).2), rfl, hds, by kernel_rfl, by kernel_rfl, o_it6, hb, hs, ?_, ?_⟩
       ·omega
       ·omega
       ·exact nm_on lt_it6 (by omega) i3
      ·intro h30
       replace h30 : 57 < c_it6 := by omega
       refine K11 yU (zJ (zE (zA (K11 zN (zF (zD (zI (K22 (yD .i32 c_it6 95 (c_it6 = 95) rfl (xB c_it6 95)) ?_ ?_))))))))
       ·intro h31
        replace h31 : c_it6 = 95 := by omega
        refine zJ (zE (zA (K11 zS (zV (zA (K11 zS (zV (zP (zP ?_)))))))))
        refine zA ⟨_, ?_, (pos + (dec s pos).2), rfl, hds, by kernel_rfl, by kernel_rfl, o_it6, hb, hs, ?_, ?_⟩
        ·omega
        ·omega
        ·exact nm_on lt_it6 (by omega) i3
       ·intro h32
        replace h32 : c_it6 ≠ 95 := by omega
        refine zJ (zE (zA (K11 zN (zD (zI (K22 (yD .i32 c_it6 45 (c_it6 = 45) rfl (xB c_it6 45)) ?_ ?_))))))
        ·intro h33
         replace h33 : c_it6 = 45 := by omega
         refine zJ (zE (zA (K11 zS (zV (zP (zP ?_))))))
         refine zA ⟨_, ?_, (pos + (dec s pos).2), rfl, hds, by kernel_rfl, by kernel_rfl, o_it6, hb, hs, ?_, ?_⟩
         ·omega
         ·omega
         ·exact nm_on lt_it6 (by omega) i3
        ·intro h34
         replace h34 : c_it6 ≠ 45 := by omega
         refine zJ (zE (zA (K11 zN (zF (zD (zJ (zE (zA (zX (zU (zU (zH (zU (zH ?_))))))))))))))
         refine zO [.tmp 2] [(.bool false)] rfl hds ⟨by kernel_rfl, trivial⟩ ?_
         have e0 : false = nameF s := by exact (nm_off lt_it6 (by omega) i3).symm
         exact ⟨congrArg Value.bool e0, hb⟩
     ·intro h35
      replace h35 : c_it6 < 48 := by omega
      refine zI (K11 yC (K11 yC (K11 yV (zJ (zE (zA (K11 zN (zF (zD (zI (K22 (yD .i32 c_it6 95 (c_it6 = 95) rfl (xB c_it6 95)) ?_ ?_)))))))))))
      ·intro h36
       replace h36 : c_it6 = 95 := by omega
       refine zJ (zE (zA (K11 zS (zV (zA (K11 zS (zV (zP (zP ?_)))))))))
       refine zA ⟨_, ?_, (pos + (dec s pos).2), rfl, hds, by kernel_rfl, by kernel_rfl, o_it6, hb, hs, ?_, ?_⟩
       ·omega
       ·omega
       ·exact nm_on lt_it6 (by omega) i3
      ·intro h37
       replace h37 : c_it6 ≠ 95 := by omega
       refine zJ (zE (zA (K11 zN (zD (zI (K22 (yD .i32 c_it6 45 (c_it6 = 45) rfl (xB c_it6 45)) ?_ ?_))))))
       ·intro h38
        replace h38 : c_it6 = 45 := by omega
        refine zJ (zE (zA (K11 zS (zV (zP (zP ?_))))))
        refine zA ⟨_, ?_, (pos + (dec s pos).2), rfl, hds, by kernel_rfl, by kernel_rfl, o_it6, hb, hs, ?_, ?_⟩
        ·omega
        ·omega
        ·exact nm_on lt_it6 (by omega) i3
       ·intro h39
        replace h39 : c_it6 ≠ 45 := by omega
        refine zJ (zE (zA (K11 zN (zF (zD (zJ (zE (zA (zX (zU (zU (zH (zU (zH ?_))))))))))))))
        refine zO [.tmp 2] [(.bool false)] rfl hds ⟨by kernel_rfl, trivial⟩ ?_
        have e0 : false = nameF s := by exact (nm_off lt_it6 (by omega) i3).symm
        exact ⟨congrArg Value.bool e0, hb⟩
  ·intro h40
   replace h40 : c_it6 < 65 := by omega
   refine zI (K11 yC (K11 yC (K11 yV (zJ (zE (zA (K11 zN (zF (zD (zI (K22 (yD .i32 c_it6 97 (97 ≤ c_it6) rfl (cmp_ge c_it6 97)) ?_ ?_)))))))))))
   ·intro h41
    replace h41 : 97 ≤ c_it6 := by omega
    refine zI (K11 zY (zI (K11 zY (K22 (yD .i32 c_it6 122 (c_it6 ≤ 122) rfl (cmp_le c_it6 122)) ?_ ?_))))
    ·intro h42
     replace h42 : c_it6 ≤ 122 := by omega
     refine K11 yU (zJ (zE (zA (K11 zS (zV (zA (K11 zS (zV (zP (zP ?_))))))))))
     refine zA ⟨_, ?_, (pos + (dec s pos).2), rfl, hds, by kernel_rfl, by kernel_rfl, o_it6, hb, hs, ?_, ?_⟩
     ·omega
     ·omega
     ·exact nm_on lt_it6 (by omega) i3
    ·intro h43
     replace h43 : 122 < c_it6 := by omega
     refine K11 yU (zJ (zE (zA (K11 zN (zF (zD (zI (K22 (yD .i32 c_it6 48 (48 ≤ c_it6) rfl (cmp_ge c_it6 48)) ?_ ?_))))))))
     ·intro h44
      replace h44 : 48 ≤ c_it6 := by omega
      refine zI (K11 zY (zI (K11 zY (K22 (yD .i32 c_it6 57 (c_it6 ≤ 57) rfl (cmp_le c_it6 57)) ?_ ?_))))
      ·intro h45
       replace h45 : c_it6 ≤ 57 := by omega
       refine K11 yU (zJ (zE (zA (K11 zS (zV (zA (K11 zS (zV (zP (zP ?_))))))))))
       refine zA ⟨_, ?_, (pos + (dec s pos).2), rfl, hds, by kernel_rfl, by kernel_rfl, o_it6, hb, hs, ?_, ?_⟩
       ·omega
       ·omega
       ·exact nm_on lt_it6 (by omega) i3
      ·intro h46
       replace h46 : 57 < c_it6 := by omega
       refine K11 yU (zJ (zE (zA (K11 zN (zF (zD (zI (K22 (yD .i32 c_it6 95 (c_it6 = 95) rfl (xB c_it6 95)) ?_ ?_))))))))
       ·intro h47
        replace h47 : c_it6 = 95 := by omega
        refine zJ (zE (zA (K11 zS (zV (zA (K11 zS (zV (zP (zP ?_)))))))))
        refine zA ⟨_, ?_, (pos + (dec s pos).2), rfl, hds, by kernel_rfl, by kernel_rfl, o_it6, hb, hs, ?_, ?_⟩
        ·omega
        ·omega
        ·exact nm_on lt_it6 (by omega) i3
       ·intro h48
        replace h48 : c_it6 ≠ 95 := by omega
        refine zJ (zE (zA (K11 zN (zD (zI (K22 (yD .i32 c_it6 45 (c_it6 = 45) rfl (xB c_it6 45)) ?_ ?_))))))
        ·intro h49
         replace h49 : c_it6 = 45 := by omega
         refine zJ (zE (zA (K11 zS (zV (zP (zP ?_))))))
         refine zA ⟨_, ?_, (pos + (dec s pos).2), rfl, hds, by kernel_rfl, by kernel_rfl, o_it6, hb, hs, ?_, ?_⟩
         ·omega
         ·omega
         ·exact nm_on lt_it6 (by omega) i3
        ·intro h50
         replace h50 : c_it6 ≠ 45 := by omega
         refine zJ (zE (zA (K11 zN (zF (zD (zJ (zE (zA (zX (zU (zU (zH (zU (zH ?_))))))))))))))
         refine zO [.tmp 2] [(.bool false)] rfl hds ⟨by kernel_rfl, trivial⟩ ?_
         have e0 : false = nameF s := by exact (nm_off lt_it6 (by omega) i3).symm
         exact ⟨congrArg Value.bool e0, hb⟩
     ·intro h51
      replace h51 : c_it6 < 48 := by omega
      refine zI (K11 yC (K11 yC (K11 yV (zJ (zE (zA (K11 zN (zF (zD (zI (K22 (yD .i32 c_it6 95 (c_it6 = 95) rfl (xB c_it6 95)) ?_ ?_)))))))))))
      ·intro h52
       replace h52 : c_it6 = 95 := by omega
       refine zJ (zE (zA (K11 zS (zV (zA (K11 zS (zV (zP (zP ?_)))))))))
       refine zA ⟨_, ?_, (pos + (dec s pos).2), rfl, hds, by kernel_rfl, by kernel_rfl, o_it6, hb, hs, ?_, ?_⟩
       ·omega
       ·omega
       ·exact nm_on lt_it6 (by omega) i3
      ·intro h53
       replace h53 : c_it6 ≠ 95 := by omega
       refine zJ (zE (zA (K11 zN (zD (zI (K22 (yD .i32 c_it6 45 (c_it6 = 45) rfl (xB c_it6 45)) ?_ ?_))))))
       ·intro h54
        replace h54 : c_it6 = 45 := by omega
        refine zJ (zE (zA (K11 zS (zV (zP (zP ?_))))))
        refine zA ⟨_, ?_, (pos + (dec s pos).2), rfl, hds, by kernel_rfl, by kernel_rfl, o_it6, hb, hs, ?_, ?_⟩
        ·omega
        ·omega
        ·exact nm_on lt_it6 (by omega) i3
       ·intro h55
        replace h55 : c_it6 ≠ 45 := by omega
        refine zJ (zE (zA (K11 zN (zF (zD (zJ (zE (zA (zX (zU (zU (zH (zU (zH ?_))))))))))))))
        refine zO [.tmp 2] [(.bool false)] rfl hds ⟨by kernel_rfl, trivial⟩ ?_
        have e0 : false = nameF s := by exact (nm_off lt_it6 (by omega) i3).symm
        exact ⟨congrArg Value.bool e0, hb⟩
   ·intro h56
    replace h56 : c_it6 < 97 := by omega
    refine zI (K11 yC (K11 yC (K11 yV (zJ (zE (zA (K11 zN (zF (zD (zI (K22 (yD .i32 c_it6 48 (48 ≤ c_it6) rfl (cmp_ge c_it6 48)) ?_ ?_)))))))))))
    ·intro h57
     replace h57 : 48 ≤ c_it6 := by omega
     refine zI (K11 zY (zI (K11 zY (K22 (yD .i32 c_it6 57 (c_it6 ≤ 57) rfl (cmp_le c_it6 57)) ?_ ?_))))
     ·intro h58
      replace h58 : c_it6 ≤ 57 := by omega
      refine K11 yU (zJ (zE (zA (K11 zS (zV (zA (K11 zS (zV (zP (zP ?_))))))))))
      refine zA ⟨_, ?_, (pos + (dec s pos).2), rfl, hds, by kernel_rfl, by kernel_rfl, o_it6, hb, hs, ?_, ?_⟩
      ·omega
      ·omega
      ·exact nm_on lt_it6 (by omega) i3
     ·intro h59
      replace h59 : 57 < c_it6 := by omega
      refine K11 yU (zJ (zE (zA (K11 zN (zF (zD (zI (K22 (yD .i32 c_it6 95 (c_it6 = 95) rfl (xB c_it6 95)) ?_ ?_))))))))
      ·intro h60
       replace h60 : c_it6 = 95 := by omega
       refine zJ (zE (zA (K11 zS (zV (zA (K11 zS (zV (zP (zP ?_)))))))))
       refine zA ⟨_, ?_, (pos + (dec s pos).2), rfl, hds, by kernel_rfl, by kernel_rfl, o_it6, hb, hs, ?_, ?_⟩
       ·omega
       ·omega
       ·exact nm_on lt_it6 (by omega) i3
      ·intro h61
       replace h61 : c_it6 ≠ 95 := by omega
       refine zJ (zE (zA (K11 zN (zD (zI (K22 (yD .i32 c_it6 45 (c_it6 = 45) rfl (xB c_it6 45)) ?_ ?_))))))
       ·intro h62
        replace h62 : c_it6 = 45 := by omega
        refine zJ (zE (zA (K11 zS (zV (zP (zP ?_))))))
        refine zA ⟨_, ?_, (pos + (dec s pos).2), rfl, hds, by kernel_rfl, by kernel_rfl, o_it6, hb, hs, ?_, ?_⟩
        ·omega
        ·omega
        ·exact nm_on lt_it6 (by omega) i3
       ·intro h63
        replace h63 : c_it6 ≠ 45 := by omega
        refine zJ (zE (zA (K11 zN (zF (zD (zJ (zE (zA (zX (zU (zU (zH (zU (zH ?_))))))))))))))
        refine zO [.tmp 2] [(.bool false)] rfl hds ⟨by kernel_rfl, trivial⟩ ?_
        have e0 : false = nameF s := by exact (nm_off lt_it6 (by omega) i3).symm
        exact ⟨congrArg Value.bool e0, hb⟩
    ·intro h64
     replace h64 : c_it6 < 48 := by omega
     refine zI (K11 yC (K11 yC (K11 yV (zJ (zE (zA (K11 zN (zF (zD (zI (K22 (yD .i32 c_it6 95 (c_it6 = 95) rfl (xB c_it6 95)) ?_ ?_)))))))))))
     ·intro h65
      replace h65 : c_it6 = 95 := by omega
      refine zJ (zE (zA (K11 zS (zV (zA (K11 zS (zV (zP (zP ?_)))))))))
      refine zA ⟨_, ?_, (pos + (dec s pos).2), rfl, hds, by kernel_rfl, by kernel_rfl, o_it6, hb, hs, ?_, ?_⟩
      ·omega
      ·omega
      ·exact nm_on lt_it6 (by omega) i3
     ·intro h66
      replace h66 : c_it6 ≠ 95 := by omega
      refine zJ (zE (zA (K11 zN (zD (zI (K22 (yD .i32 c_it6 45 (c_it6 = 45) rfl (xB c_it6 45)) ?_ ?_))))))
      ·intro h67
       replace h67 : c_it6 = 45 := by omega
       refine zJ (zE (zA (K11 zS (zV (zP (zP ?_))))))
       refine zA ⟨_, ?_, (pos + (dec s pos).2), rfl, hds, by kernel_rfl, by kernel_rfl, o_it6, hb, hs, ?_, ?_⟩
       ·omega
       ·omega
       ·exact nm_on lt_it6 (by omega) i3
      ·intro h68
       replace h68 : c_it6 ≠ 45 := by omega
       refine zJ (zE (zA (K11 zN (zF (zD (zJ (zE (zA (zX (zU (zU (zH (zU (zH ?_))))))))))))))
       refine zO [.tmp 2] [(.bool false)] rfl hds ⟨by kernel_rfl, trivial⟩ ?_
       have e0 : false = nameF s := by exact (nm_off lt_it6 (by omega) i3).symm
       exact ⟨congrArg Value.bool e0, hb⟩
 ·refine K13 (L_nextEnd s b1 pos) o_it6 ge_it6 (K21 (zQ (.bool false)) (zE (zA (zF (K11 zN (W_exit (yM (yM (xM (zA (zF (zD (zI (K22 (L_sne s ([] : List UInt8) rfl) ?_ ?_))))))))))))))
  ·intro h69
   refine zJ (zE (zA (zX ?_)))
   refine zO [.tmp 2] [(.bool true)] rfl hds ⟨by kernel_rfl, trivial⟩ ?_
   have e0 : true = nameF s := by (rw [nm_end (by omega) i3]; simp [*]; done)
   exact ⟨congrArg Value.bool e0, hb⟩
  ·intro h70
   refine zJ (zE (zA (zX ?_)))
   refine zO [.tmp 2] [(.bool false)] rfl hds ⟨by kernel_rfl, trivial⟩ ?_
   have e0 : false = nameF s := by (rw [nm_end (by omega) i3]; simp [*]; done)
   exact ⟨congrArg Value.bool e0, hb⟩
theorem c_lines_pieces (s : List UInt8) (w : World) (hs : s.length ≤ 1073741824) :
  Calls Tryz.prog 91 #[(S s)] w (Ret fun v w' => ∃ (q0 : Value), v = q0 ∧ Row w' w.heap.size 164 3 encPc q0 (pcsI s) ∧ Below w.heap.size w w') := by
 refine K11 (enter (args := [(S s)]) Tryz.func91 rfl (by kernel_rfl : _ = 53)) ?_
 have hb := Below.refl w.heap.size w
 have hs : w.heap.size ≤ w.heap.size := Nat.le_refl _
 have hml := mark_len s
 refine zF (zD (zJ (zE (zA (zF (zD (zJ (zE (zA (zF (zD (zJ (zE (zA (zF (zF (zD (zI (K22 (yA 96 [(S s), (S ([239, 187, 191] : List UInt8))]) (c_strings_HasPrefix s ([239, 187, 191] : List UInt8) _) ?_)))))))))))))))))))
 rintro _ w1 ⟨rfl, hB2⟩
 replace hb := hb.trans (hB2.mono hs)
 replace hs := Nat.le_trans hs (hB2.size)
 refine xK (hpB s ([239, 187, 191] : List UInt8)) ?_ ?_
 ·intro h4
  have := hp_len h4; simp only [List.length_cons, List.length_nil] at this
  refine zE (zA (K11 zS (zD (zJ (zE (zA (yP ?_)))))))
  refine W_loop (fun m s0 w0 => ∃ (a : Int) (acc : List (Int × Int × Int)) (v_3 : Value), (m = s.length - a.toNat) ∧ (s0.ds = []) ∧ (s0.f 0 = (S s)) ∧ (s0.f 3 = v_3) ∧ (s0.f 4 = (.int .i64 a)) ∧ (Row w0 w.heap.size 164 3 encPc v_3 acc) ∧ (Below w.heap.size w w0) ∧ (w.heap.size ≤ w0.heap.size) ∧ (0 ≤ a) ∧ (a ≤ s.length) ∧ (acc.length ≤ a.toNat) ∧ (acc ++ (pcsFrom s a.toNat a.toNat).map toI = pcsI s)) _ ⟨3, [], (.slice none 0 0), rfl, by kernel_rfl, by kernel_rfl, by kernel_rfl, by kernel_rfl, Row.nil _ _ _ _ _, hb, hs, by omega, by omega, (by simp), (by simp [pcsI, markN, markT, *])⟩ ?_
  rintro m5 s6 w7 ⟨a, acc, v_3, hm, hds, f_0, f_3, f_4, r_3, hb, hs, i1, i2, i4, i3⟩
  refine yK 0 _ f_0 (yK 3 _ f_3 (yK 4 _ f_4 ?_))
  clear f_0 f_3 f_4
  have hdl : (List.drop a.toNat s).length = s.length - a.toNat := List.length_drop
  refine yP (zF (zD (zI (zI (K13 (L_ssfrom s ((a).toNat) Tryz.underlying9) (K11 (toNat_val a .i64) (by omega)) (by omega) (K22 (yA 127 [(S (List.drop ((a).toNat) s)), (.int .u8 10)]) (c_strings_IndexByte (List.drop ((a).toNat) s) 10 _) ?_))))))
  rintro _ w8 ⟨rfl, hB9⟩
  replace hb := hb.trans (hB9.mono hs)
  replace hs := Nat.le_trans hs (hB9.size)
  replace r_3 := r_3.below hB9
  have := ib_range (List.drop ((a).toNat) s) 10
  refine zJ (zE (zA (zF (zF (zD (zI (K22 (yD .i64 (ibF (List.drop ((a).toNat) s) 10) 0 ((ibF (List.drop ((a).toNat) s) 10) < 0) rfl (cmp_lt (ibF (List.drop ((a).toNat) s) 10) 0)) ?_ ?_)))))))
  ·intro h11
   replace h11 : (ibF (List.drop ((a).toNat) s) 10) < 0 := by omega
   refine zE (zA (K11 zS (zF (zD (zI (zI (zI (K11 (L_slen 9 s rfl Tryz.underlying9) (zI (K11 (L_slen 9 s rfl Tryz.underlying9) (K21 (zQ (Value.agg #[(.int .i64 a), (.int .i64 (((s).length : Nat) : Int)), (.int .i64 (((s).length : Nat) : Int))])) (K21 (L_app el161 w.heap.size v_3 acc (a, (((s).length : Nat) : Int), (((s).length : Nat) : Int)) hs r_3 (by omega) (by kernel_rfl) rfl rfl (by kernel_rfl) rfl) ?_))))))))))))
   intro v12 w13 hr14 hg15 how16
   replace hb := hb.grown hg15 hs (fun k hk => (World.ownsRow.lt r_3 k hk).1)
   replace hs := Nat.le_trans hs (hg15.size)
   replace r_3 := hr14
   refine zJ (zE (zA (zX (zH (zU (zH (zU ?_)))))))
   refine zO [.tmp 2] [v12] rfl hds ⟨by kernel_rfl, trivial⟩ ?_
   have e51 : (acc ++ [(a, (((s).length : Nat) : Int), (((s).length : Nat) : Int))]) = pcsI s := by exact pcsZ_end i1 i2 (by omega) i3
   exact ⟨v12, rfl, r_3.cast e51, hb⟩
  ·intro h17
   replace h17 : 0 ≤ (ibF (List.drop ((a).toNat) s) 10) := by omega
   refine zE (zA (K11 zN (zV (zA (zF (zD (zI (zI (zI (K22 (xS a (ibF (List.drop ((a).toNat) s) 10) (a + (ibF (List.drop ((a).toNat) s) 10)) rfl) (xL _ (by simp only [arithZ]; omega) (by simp only [arithZ]; omega)) (zI (zI (K22 (xS a (ibF (List.drop ((a).toNat) s) 10) (a + (ibF (List.drop ((a).toNat) s) 10)) rfl) (xL _ (by simp only [arithZ]; omega) (by simp only [arithZ]; omega)) (K22 (xS (a + (ibF (List.drop ((a).toNat) s) 10)) 1 ((a + (ibF (List.drop ((a).toNat) s) 10)) + 1) rfl) (xL _ (by simp only [arithZ]; omega) (by simp only [arithZ]; omega)) (K21 (zQ (Value.agg #[(.int .i64 a), (.int .i64 (a + (ibF (List.drop ((a).toNat) s) 10))), (.int .i64 ((a + (ibF (List.drop ((a).toNat) s) 10)) + 1))])) (K21 (yW (fun b => .pointer (some ⟨b, 0, none⟩)) (.cells [(.int .i64 0), (.int .i64 0), (.int .i64 0)].toArray 164 (0, 0))) ?_))))))))))))))))
   intro b18 w19 hN20
   have g_x6 : w.heap.size ≤ b18 := by rw [hN20.num]; exact hs
   have nb_o_x6_r_3 := r_3.new_ne hN20
   replace hb := hb.trans (hN20.below.mono hs)
   replace hs := Nat.le_trans hs (hN20.below.size)
   replace r_3 := r_3.below hN20.below
   have o_x6 := hN20.here
   refine K26 (yX b18 0 [(.int .i64 a), (.int .i64 (a + (ibF (List.drop ((a).toNat) s) 10))), (.int .i64 ((a + (ibF (List.drop ((a).toNat) s) 10)) + 1))] [(.int .i64 0), (.int .i64 0), (.int .i64 0)] [(.int .i64 a), (.int .i64 (a + (ibF (List.drop ((a).toNat) s) 10))), (.int .i64 ((a + (ibF (List.drop ((a).toNat) s) 10)) + 1))] 164) rfl (by kernel_rfl) o_x6 (by kernel_rfl) rfl ?_
   intro w21 hW22
   replace hb := hb.trans (hW22.below g_x6)
   replace hs := Nat.le_trans hs (Nat.le_of_eq hW22.size.symm)
   replace r_3 := r_3.wrote hW22 nb_o_x6_r_3
   replace o_x6 := hW22.here
   refine zE (zA (zF (zF (zD (zI (K22 (yD .i64 (ibF (List.drop ((a).toNat) s) 10) 0 (0 < (ibF (List.drop ((a).toNat) s) 10)) rfl (cmp_gt (ibF (List.drop ((a).toNat) s) 10) 0)) ?_ ?_))))))
   ·intro h23
    replace h23 : 0 < (ibF (List.drop ((a).toNat) s) 10) := by omega
    refine zI (K11 zY (zI (K11 zY (K21 (zQ (.pointer (some ⟨b18, 1, none⟩))) (K11 zY (K22 (zZ b18 1 (.int .i64 (a + (ibF (List.drop ((a).toNat) s) 10)))) (zM o_x6 rfl) (K11 zY (K22 (xS (a + (ibF (List.drop ((a).toNat) s) 10)) 1 ((a + (ibF (List.drop ((a).toNat) s) 10)) - 1) rfl) (xL _ (by simp only [arithZ]; omega) (by simp only [arithZ]; omega)) (K11 zY ?_)))))))))
    have hz := yT s (((a + (ibF (List.drop ((a).toNat) s) 10)) - 1).toNat) (by omega); obtain ⟨c24, hc25⟩ := hz
    have := c24.toNat_lt
    refine K21 (L_sindexZ (k := .i64) s ((a + (ibF (List.drop ((a).toNat) s) 10)) - 1) (((a + (ibF (List.drop ((a).toNat) s) 10)) - 1).toNat) c24 (by omega) Tryz.underlying9 hc25) (K11 zY (K22 (yD .u8 ((c24.toNat : Nat) : Int) ((13 : Nat) : Int) (c24.toNat = 13) rfl (cmpN_eq c24.toNat 13)) ?_ ?_))
    ·intro h26
     replace h26 : c24.toNat = 13 := by omega
     refine K11 yU (zE (zA (K11 zS (zD (K21 (zQ (.pointer (some ⟨b18, 1, none⟩))) (K22 (zZ b18 1 (.int .i64 (a + (ibF (List.drop ((a).toNat) s) 10)))) (zM o_x6 rfl) (K22 (xS (a + (ibF (List.drop ((a).toNat) s) 10)) 1 ((a + (ibF (List.drop ((a).toNat) s) 10)) - 1) rfl) (xL _ (by simp only [arithZ]; omega) (by simp only [arithZ]; omega)) (K21 (zQ (.pointer (some ⟨b18, 1, none⟩))) (K26 (xC b18 1 (.int .i64 ((a + (ibF (List.drop ((a).toNat) s) 10)) - 1)) [(.int .i64 a), (.int .i64 (a + (ibF (List.drop ((a).toNat) s) 10))), (.int .i64 ((a + (ibF (List.drop ((a).toNat) s) 10)) + 1))] [(.int .i64 a), (.int .i64 ((a + (ibF (List.drop ((a).toNat) s) 10)) - 1)), (.int .i64 ((a + (ibF (List.drop ((a).toNat) s) 10)) + 1))] 164) rfl (by kernel_rfl) o_x6 (by simp) rfl ?_)))))))))
     intro w27 hW28
     replace hb := hb.trans (hW28.below g_x6)
     replace hs := Nat.le_trans hs (Nat.le_of_eq hW28.size.symm)
     replace r_3 := r_3.wrote hW28 nb_o_x6_r_3
     replace o_x6 := hW28.here
     refine zE (zA (zF (zD (zI (K32 (yH b18 0 [(.int .i64 a), (.int .i64 ((a + (ibF (List.drop ((a).toNat) s) 10)) - 1)), (.int .i64 ((a + (ibF (List.drop ((a).toNat) s) 10)) + 1))]) (K10 (yN o_x6 0)) (K21 (L_app el161 w.heap.size v_3 acc (a, ((a + (ibF (List.drop ((a).toNat) s) 10)) - 1), ((a + (ibF (List.drop ((a).toNat) s) 10)) + 1)) hs r_3 (by omega) (by kernel_rfl) rfl rfl (by kernel_rfl) rfl) ?_))))))
     intro v29 w30 hr31 hg32 how33
     have nc_o_x6 := ownb_app how33 nb_o_x6_r_3 (yR o_x6)
     replace hb := hb.grown hg32 hs (fun k hk => (World.ownsRow.lt r_3 k hk).1)
     replace hs := Nat.le_trans hs (hg32.size)
     replace o_x6 := yF o_x6 hg32 nb_o_x6_r_3
     have nb_o_x6_r_3 := nc_o_x6
     replace r_3 := hr31
     refine zJ (zE (zA (zD (K21 (zQ (.pointer (some ⟨b18, 2, none⟩))) (K22 (zZ b18 2 (.int .i64 ((a + (ibF (List.drop ((a).toNat) s) 10)) + 1))) (zM o_x6 rfl) (zJ (zE (zP ?_))))))))
     refine zA ⟨_, ?_, ((a + (ibF (List.drop ((a).toNat) s) 10)) + 1), (acc ++ [(a, ((a + (ibF (List.drop ((a).toNat) s) 10)) - 1), ((a + (ibF (List.drop ((a).toNat) s) 10)) + 1))]), v29, rfl, hds, by kernel_rfl, by kernel_rfl, by kernel_rfl, r_3, hb, hs, ?_, ?_, ?_, ?_⟩
     ·omega
     ·omega
     ·omega
     ·simp only [List.length_append, List.length_cons, List.length_nil]; omega
     ·exact pcsZ_step i1 rfl (by omega) (.inl ⟨rfl, by omega, _, by assumption, by assumption⟩) i3
    ·intro h34
     replace h34 : c24.toNat ≠ 13 := by omega
     refine K11 yU (zE (zA (K11 zN (zV (zA (zF (zD (zI (K32 (yH b18 0 [(.int .i64 a), (.int .i64 (a + (ibF (List.drop ((a).toNat) s) 10))), (.int .i64 ((a + (ibF (List.drop ((a).toNat) s) 10)) + 1))]) (K10 (yN o_x6 0)) (K21 (L_app el161 w.heap.size v_3 acc (a, (a + (ibF (List.drop ((a).toNat) s) 10)), ((a + (ibF (List.drop ((a).toNat) s) 10)) + 1)) hs r_3 (by omega) (by kernel_rfl) rfl rfl (by kernel_rfl) rfl) ?_))))))))))
     intro v35 w36 hr37 hg38 how39
     have nc_o_x6 := ownb_app how39 nb_o_x6_r_3 (yR o_x6)
     replace hb := hb.grown hg38 hs (fun k hk => (World.ownsRow.lt r_3 k hk).1)
     replace hs := Nat.le_trans hs (hg38.size)
     replace o_x6 := yF o_x6 hg38 nb_o_x6_r_3
     have nb_o_x6_r_3 := nc_o_x6
     replace r_3 := hr37
     refine zJ (zE (zA (zD (K21 (zQ (.pointer (some ⟨b18, 2, none⟩))) (K22 (zZ b18 2 (.int .i64 ((a + (ibF (List.drop ((a).toNat) s) 10)) + 1))) (zM o_x6 rfl) (zJ (zE (zP ?_))))))))
     refine zA ⟨_, ?_, ((a + (ibF (List.drop ((a).toNat) s) 10)) + 1), (acc ++ [(a, (a + (ibF (List.drop ((a).toNat) s) 10)), ((a + (ibF (List.drop ((a).toNat) s) 10)) + 1))]), v35, rfl, hds, by kernel_rfl, by kernel_rfl, by kernel_rfl, r_3, hb, hs, ?_, ?_, ?_, ?_⟩
     ·omega
     ·omega
     ·omega
     ·simp only [List.length_append, List.length_cons, List.length_nil]; omega
     ·exact pcsZ_step i1 rfl (by omega) (.inr ⟨rfl, .inr ⟨_, by assumption, by assumption⟩⟩) i3
   ·intro h40
    replace h40 : (ibF (List.drop ((a).toNat) s) 10) ≤ 0 := by omega
    refine zI (K11 yC (K11 yC (K11 yC (K11 yC (K11 yC (K11 yC (K11 yV (zE (zA (K11 zN (zV (zA (zF (zD (zI (K32 (yH b18 0 [(.int .i64 a), (.int .i64 (a + (ibF (List.drop ((a).toNat) s) 10))), (.int .i64 ((a + (ibF (List.drop ((a).toNat) s) 10)) + 1))]) (K10 (yN o_x6 0)) (K21 (L_app el161 w.heap.size v_3 acc (a, (a + (ibF (List.drop ((a).toNat) s) 10)), ((a + (ibF (List.drop ((a).toNat) s) 10)) + 1)) hs r_3 (by omega) (by kernel_rfl) rfl rfl (by kernel_rfl) rfl) ?_)))))))))))))))))
    intro v41 w42 hr43 hg44 how45
    have nc_o_x6 := ownb_app how45 nb_o_x6_r_3 (yR o_x6)
    replace hb := hb.grown hg44 hs (fun k hk => (World.ownsRow.lt r_3 k hk).1)
    replace hs := Nat.le_trans hs (hg44.size)
    replace o_x6 := yF o_x6 hg44 nb_o_x6_r_3
    have nb_o_x6_r_3 := nc_o_x6
    replace r_3 := hr43
    refine zJ (zE (zA (zD (K21 (zQ (.pointer (some ⟨b18, 2, none⟩))) (K22 (zZ b18 2 (.int .i64 ((a + (ibF (List.drop ((a).toNat) s) 10)) + 1))) (zM o_x6 rfl) (zJ (zE (zP ?_))))))))
    refine zA ⟨_, ?_, ((a + (ibF (List.drop ((a).toNat) s) 10)) + 1), (acc ++ [(a, (a + (ibF (List.drop ((a).toNat) s) 10)), ((a + (ibF (List.drop ((a).toNat) s) 10)) + 1))]), v41, rfl, hds, by kernel_rfl, by kernel_rfl, by kernel_rfl, r_3, hb, hs, ?_, ?_, ?_, ?_⟩
    ·omega
    ·omega
    ·omega
    ·simp only [List.length_append, List.length_cons, List.length_nil]; omega
    ·exact pcsZ_step i1 rfl (by omega) (.inr ⟨rfl, .inl (by omega)⟩) i3
 ·intro h46
  refine zE (zA (K11 zN (zV (zA (yP ?_)))))
  refine W_loop (fun m s0 w0 => ∃ (a : Int) (acc : List (Int × Int × Int)) (v_3 : Value), (m = s.length - a.toNat) ∧ (s0.ds = []) ∧ (s0.f 0 = (S s)) ∧ (s0.f 3 = v_3) ∧ (s0.f 4 = (.int .i64 a)) ∧ (Row w0 w.heap.size 164 3 encPc v_3 acc) ∧ (Below w.heap.size w w0) ∧ (w.heap.size ≤ w0.heap.size) ∧ (0 ≤ a) ∧ (a ≤ s.length) ∧ (acc.length ≤ a.toNat) ∧ (acc ++ (pcsFrom s a.toNat a.toNat).map toI = pcsI s)) _ ⟨0, [], (.slice none 0 0), rfl, by kernel_rfl, by kernel_rfl, by kernel_rfl, by kernel_rfl, Row.nil _ _ _ _ _, hb, hs, by omega, by omega, (by simp), (by simp [pcsI, markN, markT, *])⟩ ?_
  rintro m47 s48 w49 ⟨a, acc, v_3, hm, hds, f_0, f_3, f_4, r_3, hb, hs, i1, i2, i4, i3⟩
  refine yK 0 _ f_0 (yK 3 _ f_3 (yK 4 _ f_4 ?_))
  clear f_0 f_3 f_4
  have hdl : (List.drop a.toNat s).length = s.length - a.toNat := List.length_drop
  refine yP (zF (zD (zI (zI (K13 (L_ssfrom s ((a).toNat) Tryz.underlying9) (K11 (toNat_val a .i64) (by omega)) (by omega) (K22 (yA 127 [(S (List.drop ((a).toNat) s)), (.int .u8 10)]) (c_strings_IndexByte (List.drop ((a).toNat) s) 10 _) ?_))))))
  rintro _ w50 ⟨rfl, hB51⟩
  replace hb := hb.trans (hB51.mono hs)
  replace hs := Nat.le_trans hs (hB51.size)
  replace r_3 := r_3.below hB51
  have := ib_range (List.drop ((a).toNat) s) 10
  refine zJ (zE (zA (zF (zF (zD (zI (K22 (yD .i64 (ibF (List.drop ((a).toNat) s) 10) 0 ((ibF (List.drop ((a).toNat) s) 10) < 0) rfl (cmp_lt (ibF (List.drop ((a).toNat) s) 10) 0)) ?_ ?_)))))))
  ·intro h53
   replace h53 : (ibF (List.drop ((a).toNat) s) 10) < 0 := by omega
   refine zE (zA (K11 zS (zF (zD (zI (zI (zI (K11 (L_slen 9 s rfl Tryz.underlying9) (zI (K11 (L_slen 9 s rfl Tryz.underlying9) (K21 (zQ (Value.agg #[(.int .i64 a), (.int .i64 (((s).length : Nat) : Int)), (.int .i64 (((s).length : Nat) : Int))])) (K21 (L_app el161 w.heap.size v_3 acc (a, (((s).length : Nat) : Int), (((s).length : Nat) : Int)) hs r_3 (by omega) (by kernel_rfl) rfl rfl (by kernel_rfl) rfl) ?_))))))))))))
   intro v54 w55 hr56 hg57 how58
   replace hb := hb.grown hg57 hs (fun k hk => (World.ownsRow.lt r_3 k hk).1)
   replace hs := Nat.le_trans hs (hg57.size)
   replace r_3 := hr56
   refine zJ (zE (zA (zX (zH (zU (zH (zU ?_)))))))
   refine zO [.tmp 2] [v54] rfl hds ⟨by kernel_rfl, trivial⟩ ?_
   have e51 : (acc ++ [(a, (((s).length : Nat) : Int), (((s).length : Nat) : Int))]) = pcsI s := by exact pcsZ_end i1 i2 (by omega) i3
   exact ⟨v54, rfl, r_3.cast e51, hb⟩
  ·intro h59
   replace h59 : 0 ≤ (ibF (List.drop ((a).toNat) s) 10) := by omega
   refine zE (zA (K11 zN (zV (zA (zF (zD (zI (zI (zI (K22 (xS a (ibF (List.drop ((a).toNat) s) 10) (a + (ibF (List.drop ((a).toNat) s) 10)) rfl) (xL _ (by simp only [arithZ]; omega) (by simp only [arithZ]; omega)) (zI (zI (K22 (xS a (ibF (List.drop ((a).toNat) s) 10) (a + (ibF (List.drop ((a).toNat) s) 10)) rfl) (xL _ (by simp only [arithZ]; omega) (by simp only [arithZ]; omega)) (K22 (xS (a + (ibF (List.drop ((a).toNat) s) 10)) 1 ((a + (ibF (List.drop ((a).toNat) s) 10)) + 1) rfl) (xL _ (by simp only [arithZ]; omega) (by simp only [arithZ]; omega)) (K21 (zQ (Value.agg #[(.int .i64 a), (.int .i64 (a + (ibF (List.drop ((a).toNat) s) 10))), (.int .i64 ((a + (ibF (List.drop ((a).toNat) s) 10)) + 1))])) (K21 (yW (fun b => .pointer (some ⟨b, 0, none⟩)) (.cells [(.int .i64 0), (.int .i64 0), (.int .i64 0)].toArray 164 (0, 0))) ?_))))))))))))))))
   intro b60 w61 hN62
   have g_x6 : w.heap.size ≤ b60 := by rw [hN62.num]; exact hs
   have nb_o_x6_r_3 := r_3.new_ne hN62
   replace hb := hb.trans (hN62.below.mono hs)
   replace hs := Nat.le_trans hs (hN62.below.size)
   replace r_3 := r_3.below hN62.below
   have o_x6 := hN62.here
   refine K26 (yX b60 0 [(.int .i64 a), (.int .i64 (a + (ibF (List.drop ((a).toNat) s) 10))), (.int .i64 ((a + (ibF (List.drop ((a).toNat) s) 10)) + 1))] [(.int .i64 0), (.int .i64 0), (.int .i64 0)] [(.int .i64 a), (.int .i64 (a + (ibF (List.drop ((a).toNat) s) 10))), (.int .i64 ((a + (ibF (List.drop ((a).toNat) s) 10)) + 1))] 164) rfl (by kernel_rfl) o_x6 (by kernel_rfl) rfl ?_
   intro w63 hW64
   replace hb := hb.trans (hW64.below g_x6)
   replace hs := Nat.le_trans hs (Nat.le_of_eq hW64.size.symm)
   replace r_3 := r_3.wrote hW64 nb_o_x6_r_3
   replace o_x6 := hW64.here
   refine zE (zA (zF (zF (zD (zI (K22 (yD .i64 (ibF (List.drop ((a).toNat) s) 10) 0 (0 < (ibF (List.drop ((a).toNat) s) 10)) rfl (cmp_gt (ibF (List.drop ((a).toNat) s) 10) 0)) ?_ ?_))))))
   ·intro h65
    replace h65 : 0 < (ibF (List.drop ((a).toNat) s) 10) := by omega
    refine zI (K11 zY (zI (K11 zY (K21 (zQ (.pointer (some ⟨b60, 1, none⟩))) (K11 zY (K22 (zZ b60 1 (.int .i64 (a + (ibF (List.drop ((a).toNat) s) 10)))) (zM o_x6 rfl) (K11 zY (K22 (xS (a + (ibF (List.drop ((a).toNat) s) 10)) 1 ((a + (ibF (List.drop ((a).toNat) s) 10)) - 1) rfl) (xL _ (by simp only [arithZ]; omega) (by simp only [arithZ]; omega)) (K11 zY ?_)))))))))
    have hz := yT s (((a + (ibF (List.drop ((a).toNat) s) 10)) - 1).toNat) (by omega); obtain ⟨c66, hc67⟩ := hz
    have := c66.toNat_lt
    refine K21 (L_sindexZ (k := .i64) s ((a + (ibF (List.drop ((a).toNat) s) 10)) - 1) (((a + (ibF (List.drop ((a).toNat) s) 10)) - 1).toNat) c66 (by omega) Tryz.underlying9 hc67) (K11 zY (K22 (yD .u8 ((c66.toNat : Nat) : Int) ((13 : Nat) : Int) (c66.toNat = 13) rfl (cmpN_eq c66.toNat 13)) ?_ ?_))
    ·intro h68
     replace h68 : c66.toNat = 13 := by omega
     refine K11 yU (zE (zA (K11 zS (zD (K21 (zQ (.pointer (some ⟨b60, 1, none⟩))) (K22 (zZ b60 1 (.int .i64 (a + (ibF (List.drop ((a).toNat) s) 10)))) (zM o_x6 rfl) (K22 (xS (a + (ibF (List.drop ((a).toNat) s) 10)) 1 ((a + (ibF (List.drop ((a).toNat) s) 10)) - 1) rfl) (xL _ (by simp only [arithZ]; omega) (by simp only [arithZ]; omega)) (K21 (zQ (.pointer (some ⟨b60, 1, none⟩))) (K26 (xC b60 1 (.int .i64 ((a + (ibF (List.drop ((a).toNat) s) 10)) - 1)) [(.int .i64 a), (.int .i64 (a + (ibF (List.drop ((a).toNat) s) 10))), (.int .i64 ((a + (ibF (List.drop ((a).toNat) s) 10)) + 1))] [(.int .i64 a), (.int .i64 ((a + (ibF (List.drop ((a).toNat) s) 10)) - 1)), (.int .i64 ((a + (ibF (List.drop ((a).toNat) s) 10)) + 1))] 164) rfl (by kernel_rfl) o_x6 (by simp) rfl ?_)))))))))
     intro w69 hW70
     replace hb := hb.trans (hW70.below g_x6)
     replace hs := Nat.le_trans hs (Nat.le_of_eq hW70.size.symm)
     replace r_3 := r_3.wrote hW70 nb_o_x6_r_3
     replace o_x6 := hW70.here
     refine zE (zA (zF (zD (zI (K32 (yH b60 0 [(.int .i64 a), (.int .i64 ((a + (ibF (List.drop ((a).toNat) s) 10)) - 1)), (.int .i64 ((a + (ibF (List.drop ((a).toNat) s) 10)) + 1))]) (K10 (yN o_x6 0)) (K21 (L_app el161 w.heap.size v_3 acc (a, ((a + (ibF (List.drop ((a).toNat) s) 10)) - 1), ((a + (ibF (List.drop ((a).toNat) s) 10)) + 1)) hs r_3 (by omega) (by kernel_rfl) rfl rfl (by kernel_rfl) rfl) ?_))))))
     intro v71 w72 hr73 hg74 how75
     have nc_o_x6 := ownb_app how75 nb_o_x6_r_3 (yR o_x6)
     replace hb := hb.grown hg74 hs (fun k hk => (World.ownsRow.lt r_3 k hk).1)
     replace hs := Nat.le_trans hs (hg74.size)
     replace o_x6 := yF o_x6 hg74 nb_o_x6_r_3
     have nb_o_x6_r_3 := nc_o_x6
     replace r_3 := hr73
     refine zJ (zE (zA (zD (K21 (zQ (.pointer (some ⟨b60, 2, none⟩))) (K22 (zZ b60 2 (.int .i64 ((a + (ibF (List.drop ((a).toNat) s) 10)) + 1))) (zM o_x6 rfl) (zJ (zE (zP ?_))))))))
     refine zA ⟨_, ?_, ((a + (ibF (List.drop ((a).toNat) s) 10)) + 1), (acc ++ [(a, ((a + (ibF (List.drop ((a).toNat) s) 10)) - 1), ((a + (ibF (List.drop ((a).toNat) s) 10)) + 1))]), v71, rfl, hds, by kernel_rfl, by kernel_rfl, by kernel_rfl, r_3, hb, hs, ?_, ?_, ?_, ?_⟩
     ·omega
     ·omega
     ·omega
     ·simp only [List.length_append, List.length_cons, List.length_nil]; omega
     ·exact pcsZ_step i1 rfl (by omega) (.inl ⟨rfl, by omega, _, by assumption, by assumption⟩) i3
    ·intro h76
     replace h76 : c66.toNat ≠ 13 := by omega
     refine K11 yU (zE (zA (K11 zN (zV (zA (zF (zD (zI (K32 (yH b60 0 [(.int .i64 a), (.int .i64 (a + (ibF (List.drop ((a).toNat) s) 10))), (.int .i64 ((a + (ibF (List.drop ((a).toNat) s) 10)) + 1))]) (K10 (yN o_x6 0)) (K21 (L_app el161 w.heap.size v_3 acc (a, (a + (ibF (List.drop ((a).toNat) s) 10)), ((a + (ibF (List.drop ((a).toNat) s) 10)) + 1)) hs r_3 (by omega) (by kernel_rfl) rfl rfl (by kernel_rfl) rfl) ?_))))))))))
     intro v77 w78 hr79 hg80 how81
     have nc_o_x6 := ownb_app how81 nb_o_x6_r_3 (yR o_x6)
     replace hb := hb.grown hg80 hs (fun k hk => (World.ownsRow.lt r_3 k hk).1)
     replace hs := Nat.le_trans hs (hg80.size)
     replace o_x6 := yF o_x6 hg80 nb_o_x6_r_3
     have nb_o_x6_r_3 := nc_o_x6
     replace r_3 := hr79
     refine zJ (zE (zA (zD (K21 (zQ (.pointer (some ⟨b60, 2, none⟩))) (K22 (zZ b60 2 (.int .i64 ((a + (ibF (List.drop ((a).toNat) s) 10)) + 1))) (zM o_x6 rfl) (zJ (zE (zP ?_))))))))
     refine zA ⟨_, ?_, ((a + (ibF (List.drop ((a).toNat) s) 10)) + 1), (acc ++ [(a, (a + (ibF (List.drop ((a).toNat) s) 10)), ((a + (ibF (List.drop ((a).toNat) s) 10)) + 1))]), v77, rfl, hds, by kernel_rfl, by kernel_rfl, by kernel_rfl, r_3, hb, hs, ?_, ?_, ?_, ?_⟩
     ·omega
     ·omega
     ·omega
     ·simp only [List.length_append, List.length_cons, List.length_nil]; omega
     ·exact pcsZ_step i1 rfl (by omega) (.inr ⟨rfl, .inr ⟨_, by assumption, by assumption⟩⟩) i3
   ·intro h82
    replace h82 : (ibF (List.drop ((a).toNat) s) 10) ≤ 0 := by omega
    refine zI (K11 yC (K11 yC (K11 yC (K11 yC (K11 yC (K11 yC (K11 yV (zE (zA (K11 zN (zV (zA (zF (zD (zI (K32 (yH b60 0 [(.int .i64 a), (.int .i64 (a + (ibF (List.drop ((a).toNat) s) 10))), (.int .i64 ((a + (ibF (List.drop ((a).toNat) s) 10)) + 1))]) (K10 (yN o_x6 0)) (K21 (L_app el161 w.heap.size v_3 acc (a, (a + (ibF (List.drop ((a).toNat) s) 10)), ((a + (ibF (List.drop ((a).toNat) s) 10)) + 1)) hs r_3 (by omega) (by kernel_rfl) rfl rfl (by kernel_rfl) rfl) ?_)))))))))))))))))
    intro v83 w84 hr85 hg86 how87
    have nc_o_x6 := ownb_app how87 nb_o_x6_r_3 (yR o_x6)
    replace hb := hb.grown hg86 hs (fun k hk => (World.ownsRow.lt r_3 k hk).1)
    replace hs := Nat.le_trans hs (hg86.size)
    replace o_x6 := yF o_x6 hg86 nb_o_x6_r_3
    have nb_o_x6_r_3 := nc_o_x6
    replace r_3 := hr85
    refine zJ (zE (zA (zD (K21 (zQ (.pointer (some ⟨b60, 2, none⟩))) (K22 (zZ b60 2 (.int .i64 ((a + (ibF (List.drop ((a).toNat) s) 10)) + 1))) (zM o_x6 rfl) (zJ (zE (zP ?_))))))))
    refine zA ⟨_, ?_, ((a + (ibF (List.drop ((a).toNat) s) 10)) + 1), (acc ++ [(a, (a + (ibF (List.drop ((a).toNat) s) 10)), ((a + (ibF (List.drop ((a).toNat) s) 10)) + 1))]), v83, rfl, hds, by kernel_rfl, by kernel_rfl, by kernel_rfl, r_3, hb, hs, ?_, ?_, ?_, ?_⟩
    ·omega
    ·omega
    ·omega
    ·simp only [List.length_append, List.length_cons, List.length_nil]; omega
    ·exact pcsZ_step i1 rfl (by omega) (.inr ⟨rfl, .inl (by omega)⟩) i3
theorem it_lines_Each_1 (b_s : Nat) (s : List UInt8) (hs : s.length ≤ 1073741824) :
  Iter (α := Int × List UInt8) Tryz.prog 90 [.pointer (some ⟨b_s, 0, none⟩)] (fun x => [.int .i64 x.1, S x.2]) (toldF s) (fun w => w.heap[b_s]? = some (.cells [(S s)].toArray 9 (0, 0))) := by
 intro l J Jx w hN h0 hJs hJxs hY
 refine K11 (enter (args := [(.func (.yield l) #[] #[]), (.pointer (some ⟨b_s, 0, none⟩))]) Tryz.func90 rfl (by kernel_rfl : _ = 30)) ?_
 have hb := Below.refl w.heap.size w
 have hs : w.heap.size ≤ w.heap.size := Nat.le_refl _
 have o_caps := hN
 refine zF (zD (K22 (zZ b_s 0 (S s)) (zM o_caps rfl) (K22 (yA 91 [(S s)]) (c_lines_pieces s _ (by omega)) ?_)))
 rintro q1 w2 ⟨_, rfl, r_q1, hB3⟩
 replace r_q1 := r_q1.base hs
 replace hb := hb.trans (hB3.mono hs)
 replace hs := Nat.le_trans hs (hB3.size)
 replace o_caps := zB o_caps hB3
 have := pcsI_len s
 refine K11 (L_len 161 164 (pcsI s).length q1 rfl Tryz.underlying161 (r_q1.rd).len) (zI (zE (zA (yP ?_))))
 have hJ := h0 _ hb
 obtain ⟨K, hKe⟩ : ∃ K, K = w2.heap.size := ⟨_, rfl⟩
 rw [← hKe] at hJ
 have hK : K ≤ w2.heap.size := by omega
 have hK0 : w.heap.size ≤ K := by omega
 have ivr_r_q1 : ∀ g, Value.ownBlock q1 = some g → Iv w.heap.size K g := fun g hg => by have := World.ownsRow.lt r_q1 g hg; exact ⟨this.1, by omega⟩
 refine W_loop (fun m s0 w0 => ∃ (i : Nat) (pre : List (Int × List UInt8)), (m = (pcsI s).length - i) ∧ (s0.ds = []) ∧ (s0.f 0 = (.func (.yield l) #[] #[])) ∧ (s0.f 1 = (.pointer (some ⟨b_s, 0, none⟩))) ∧ (s0.f 6 = q1) ∧ (s0.f 7 = (.int .i64 (((pcsI s).length : Nat) : Int))) ∧ (s0.f 8 = (.int .i64 ((i : Nat) : Int))) ∧ (Row w0 w.heap.size 164 3 encPc q1 (pcsI s)) ∧ (w0.heap[b_s]? = some (.cells [(S s)].toArray 9 (0, 0))) ∧ (w.heap.size ≤ w0.heap.size) ∧ (K ≤ w0.heap.size) ∧ (J K pre w0) ∧ (i ≤ (pcsI s).length) ∧ (pre ++ toldL s i ((pcsI s).drop i) = toldF s)) _ ⟨0, [], rfl, by kernel_rfl, by kernel_rfl, by kernel_rfl, by kernel_rfl, by kernel_rfl, by kernel_rfl, r_q1, o_caps, hs, hK, hJ, by omega, rfl⟩ ?_
 rintro m5 s6 w7 ⟨i, pre, hm, hds, f_0, f_1, f_6, f_7, f_8, r_q1, o_caps, hs, hK, hJ, i1, i3⟩
 refine yK 0 _ f_0 (yK 1 _ f_1 (yK 6 _ f_6 (yK 7 _ f_7 (yK 8 _ f_8 ?_))))
 clear f_0 f_1 f_6 f_7 f_8
 refine zF (zD (K22 (yD .i64 ((i : Nat) : Int) (((pcsI s).length : Nat) : Int) (i < (pcsI s).length) rfl (cmpN_lt i ((pcsI s).length))) ?_ ?_))
 ·intro h8
  replace h8 : i < (pcsI s).length := by omega
  refine zE (zA (zF (K11 zS (zV (zA (zF (yP (zF (zD (zI ?_))))))))))
  have hz := yT (pcsI s) i (by omega); obtain ⟨x9, hx10⟩ := hz
  have hz := (r_q1.rd).at (k := 3) (fun _ => rfl) hx10
  obtain ⟨g11, off12, hl13, hc14⟩ := hz
  have hpo := pcsI_ok hx10
  obtain ⟨po1, po2, po3, po4⟩ := hpo
  refine K21 (xE (k := .i64) q1 i _ g11 off12 el161 hl13 (by omega)) (K32 (yH g11 (off12 + i * 3) [(.int .i64 x9.1), (.int .i64 x9.2.1), (.int .i64 x9.2.2)]) hc14 (K21 (yW (fun b => .pointer (some ⟨b, 0, none⟩)) (.cells [(.int .i64 0), (.int .i64 0), (.int .i64 0)].toArray 164 (0, 0))) ?_))
  intro b15 w16 hN17
  have g_x4 : w.heap.size ≤ b15 := by rw [hN17.num]; exact hs
  have hCJ := Ch.refl (Iv w.heap.size K) w7
  have jv_x4 : (World.heap w7).size ≤ b15 ∨ Iv w.heap.size K b15 := .inl (by rw [hN17.num]; exact hCJ.size)
  have nb_o_x4_r_q1 := r_q1.new_ne hN17
  replace hCJ := hCJ.trans2 (Ch.of_below hN17.below) (fun _ h => h.elim)
  replace hK := Nat.le_trans hK (hN17.below.size)
  replace hs := Nat.le_trans hs (hN17.below.size)
  replace o_caps := zB o_caps hN17.below
  replace r_q1 := r_q1.below hN17.below
  have o_x4 := hN17.here
  refine zJ (K26 (yX b15 0 [(.int .i64 x9.1), (.int .i64 x9.2.1), (.int .i64 x9.2.2)] [(.int .i64 0), (.int .i64 0), (.int .i64 0)] [(.int .i64 x9.1), (.int .i64 x9.2.1), (.int .i64 x9.2.2)] 164) rfl (by kernel_rfl) o_x4 (by kernel_rfl) rfl ?_)
  intro w18 hW19
  replace hCJ := hCJ.trans2 (Ch.of_wrote hW19) (fun k e => e ▸ jv_x4)
  replace hK := Nat.le_trans hK (Nat.le_of_eq hW19.size.symm)
  replace hs := Nat.le_trans hs (Nat.le_of_eq hW19.size.symm)
  replace o_caps := zL o_caps hW19 (zT o_caps o_x4 (by simp))
  replace r_q1 := r_q1.wrote hW19 nb_o_x4_r_q1
  replace o_x4 := hW19.here
  refine zE (zA (zF (zF (zD (K21 (zQ (.pointer (some ⟨b15, 0, none⟩))) (K22 (zZ b15 0 (.int .i64 x9.1)) (zM o_x4 rfl) (K21 (zQ (.pointer (some ⟨b15, 2, none⟩))) (K22 (zZ b15 2 (.int .i64 x9.2.2)) (zM o_x4 rfl) (K22 (yD .i64 x9.1 x9.2.2 (x9.1 = x9.2.2) rfl (xB x9.1 x9.2.2)) ?_ ?_)))))))))
  ·intro h20
   replace h20 : x9.1 = x9.2.2 := by omega
   refine zE (zA (K11 zS (zX (zH (zU (zH (zH (zU ?_))))))))
   refine zO [] [] rfl hds trivial ?_
   replace hJ := hJs _ _ _ _ hJ hCJ
   clear hCJ
   have epre : pre = toldF s := by exact told_stop (by assumption) (by assumption) i3
   rw [epre] at hJ
   exact ⟨hs, Or.inl ⟨K, hJ⟩⟩
  ·intro h21
   replace h21 : x9.1 ≠ x9.2.2 := by omega
   refine zE (zA (K11 zN (zV (zA (zF (zD (zI (zI (K21 (xD i 1 (by omega)) (K22 (zZ b_s 0 (S s)) (zM o_caps rfl) (K21 (zQ (.pointer (some ⟨b15, 0, none⟩))) (K22 (zZ b15 0 (.int .i64 x9.1)) (zM o_x4 rfl) (K21 (zQ (.pointer (some ⟨b15, 1, none⟩))) (K22 (zZ b15 1 (.int .i64 x9.2.1)) (zM o_x4 rfl) (K15 (L_sslice s ((x9.1).toNat) ((x9.2.1).toNat) Tryz.underlying9) (K11 (toNat_val x9.1 .i64) (by omega)) (K11 (toNat_val x9.2.1 .i64) (by omega)) (by omega) (by omega) ?_)))))))))))))))
   replace hJ := hJs _ _ _ _ hJ hCJ
   clear hCJ
   have hpre : pre ++ [((((i + 1) : Nat) : Int), (List.drop ((x9.1).toNat) (List.take ((x9.2.1).toNat) s)))] <+: toldF s := by exact pre_of3 (told_step (by assumption) (by assumption) i3)
   refine K22 (L_yield l [(.int .i64 (((i + 1) : Nat) : Int)), (S (List.drop ((x9.1).toNat) (List.take ((x9.2.1).toNat) s)))]) (hY K pre ((((i + 1) : Nat) : Int), (List.drop ((x9.1).toNat) (List.take ((x9.2.1).toNat) s))) _ hJ o_caps hK0 hK hpre) ?_
   rintro e w22 (⟨rfl, hJ', hk, hN'⟩ | ⟨rfl, hJx, hk⟩)
   ·refine ⟨true, rfl, ?_⟩
    replace r_q1 := r_q1.kp hk ivr_r_q1
    replace hs := Nat.le_trans hs hk.size
    replace hK := Nat.le_trans hK hk.size
    replace hJ := hJ'
    replace o_caps := hN'
    refine K11 (L_not true) (zE (zA (K11 zN (zV (zP (zA (zD (K21 (xD i 1 (by omega)) (zI (zE ?_))))))))))
    refine zA ⟨_, ?_, (i + 1), (pre ++ [((((i + 1) : Nat) : Int), (List.drop ((x9.1).toNat) (List.take ((x9.2.1).toNat) s)))]), rfl, hds, by kernel_rfl, by kernel_rfl, by kernel_rfl, by kernel_rfl, by kernel_rfl, r_q1, o_caps, hs, hK, hJ, ?_, ?_⟩
    ·omega
    ·omega
    ·exact told_step (by assumption) (by assumption) i3
   ·refine ⟨false, rfl, ?_⟩
    replace hs := Nat.le_trans hs hk.size
    replace hK := Nat.le_trans hK hk.size
    refine K11 (L_not false) (zE (zA (K11 zS (zX (zU (zH (zH (zU ?_))))))))
    refine zO [] [] rfl hds trivial ?_
    exact ⟨hs, Or.inr ⟨K, _, _, hpre, hJx⟩⟩
 ·intro h23
  replace h23 : (pcsI s).length ≤ i := by omega
  refine zE (zA (zF (K11 zN (W_exit (yM (yM (xM ?_)))))))
  refine end_normal [] [] rfl hds trivial ?_
  have epre : pre = toldF s := by exact told_end (by omega) i3
  rw [epre] at hJ
  exact ⟨hs, Or.inl ⟨K, hJ⟩⟩
theorem c_lines_Each (s : List UInt8) (w : World) :
  Calls Tryz.prog 58 #[(S s)] w (Ret fun v w' => ∃ (cb0 : Nat), v = (.func (.func 90) #[] #[(.pointer (some ⟨cb0, 0, none⟩))]) ∧ w'.heap[cb0]? = some (.cells [(S s)].toArray 9 (0, 0)) ∧ w.heap.size ≤ cb0 ∧ Below w.heap.size w w') := by
 refine K11 (enter (args := [(S s)]) Tryz.func58 rfl (by kernel_rfl : _ = 4)) ?_
 have hb := Below.refl w.heap.size w
 have hs : w.heap.size ≤ w.heap.size := Nat.le_refl _
 refine zF (zD (K21 (yW (fun b => .pointer (some ⟨b, 0, none⟩)) (.cells [(S s)].toArray 9 (0, 0))) ?_))
 intro b1 w2 hN3
 have g_x1 : w.heap.size ≤ b1 := by rw [hN3.num]; exact hs
 replace hb := hb.trans (hN3.below.mono hs)
 replace hs := Nat.le_trans hs (hN3.below.size)
 have o_x1 := hN3.here
 refine zJ (zE (zA (zF (zD (K21 (zQ (.func (.func 90) #[] #[(.pointer (some ⟨b1, 0, none⟩))])) (zJ (zE (zA (zX ?_)))))))))
 refine zO [.tmp 2] [(.func (.func 90) #[] #[(.pointer (some ⟨b1, 0, none⟩))])] rfl rfl ⟨by kernel_rfl, trivial⟩ ?_
 exact ⟨b1, rfl, o_x1, g_x1, hb⟩
end Go.Proofs.YtkclikfejmeblaaGreatDoor
end
