/- Joined by my program pack2.py out of my own texts: PLpcs PLref PLlaw PLplc PLeach PLrds FKq PHexM PWordM PBr3 PScn PBr4 PBr5 PBr6 PLapart PBr7 PRb1 PRb2 FKaq FKar Wllines Wlscan Wlread Wccor FKl FKi FKab FKad FKae FKan FKao FKaf FKag FKah. -/
import Derived.Lib.Join
import Derived.Lib.ItoaNum
import Derived.Test.YtddnhlobnembaaaGreatDoorProg
import Derived.Tactics2
import Derived.Shelf.Strings.BuilderK
import Derived.Lib.OthersKept
import Derived.Lib.FrozenHead2
import Derived.Lib.Builder
import Derived.Laws.CopyRow
import Derived.Lib.Overlaps
import Derived.Lib.AppendZerosOnto
import Derived.Test.YtddnhlobnembaaaGreatDoorNT1
set_option linter.unusedVariables false
set_option linter.unusedSimpArgs false
/- === PLpcs === -/
section
/- Plain functions of chapter 3: the pieces of a text, and what is told of them. -/
namespace Go.FK
open Go Go.RowKit
def encPc (x : Int × Int × Int) : List Value := [.int .i64 x.1, .int .i64 x.2.1, .int .i64 x.2.2]
def markT : List UInt8 := [239, 187, 191]
def markN (s : List UInt8) : Nat := if hpB s markT = true then 3 else 0
theorem mark_len (s : List UInt8) : markN s ≤ s.length := by
 unfold markN
 split
 ·exact hp_len (p := markT) (by assumption)
 ·exact Nat.zero_le _
def crN (s : List UInt8) (a i : Nat) : Nat := if a < i ∧ s.getD (i - 1) 0 = 13 then i - 1 else i
theorem crN_le (s : List UInt8) (a i : Nat) : crN s a i ≤ i ∧ (a ≤ i → a ≤ crN s a i) := by unfold crN; split <;> omega
def pcsN (s : List UInt8) : Nat → Nat → Nat → List (Nat × Nat × Nat)
  | 0, a, _ => [(a, s.length, s.length)]
  | n + 1, a, i => if s.getD i 0 = 10 then (a, crN s a i, i + 1) :: pcsN s n (i + 1) (i + 1) else pcsN s n a (i + 1)
def pcsFrom (s : List UInt8) (a i : Nat) : List (Nat × Nat × Nat) := pcsN s (s.length - i) a i
theorem pcs_end {s : List UInt8} {a i : Nat} (h : s.length ≤ i) : pcsFrom s a i = [(a, s.length, s.length)] := by
 unfold pcsFrom; rw [show s.length - i = 0 by omega]; rfl
theorem getD_some {s : List UInt8} {i : Nat} {c : UInt8} (h : s[i]? = some c) : s.getD i 0 = c := by simp [List.getD, h]
theorem pcs_nl {s : List UInt8} {a i : Nat} {c : UInt8} (hc : s[i]? = some c) (h : c.toNat = 10) : pcsFrom s a i = (a, crN s a i, i + 1) :: pcsFrom s (i + 1) (i + 1) := by
 have hlt : i < s.length := (List.getElem?_eq_some_iff.1 hc).1
 have e : c = 10 := UInt8.toNat_inj.1 h
 unfold pcsFrom
 rw [show s.length - i = s.length - (i + 1) + 1 by omega, pcsN, getD_some hc, if_pos e]
theorem pcs_on {s : List UInt8} {a i : Nat} {c : UInt8} (hc : s[i]? = some c) (h : c.toNat ≠ 10) : pcsFrom s a i = pcsFrom s a (i + 1) := by
 have hlt : i < s.length := (List.getElem?_eq_some_iff.1 hc).1
 have e : c ≠ 10 := fun e => h (by rw [e]; rfl)
 unfold pcsFrom
 rw [show s.length - i = s.length - (i + 1) + 1 by omega, pcsN, getD_some hc, if_neg e]
theorem pcs_skip {s : List UInt8} {a k : Nat} : ∀ (n i : Nat), k - i = n → i ≤ k → k ≤ s.length → noB 10 s i k → pcsFrom s a i = pcsFrom s a k
  | 0, i, h, h1, _, _ => by obtain rfl : i = k := by omega
                            rfl
  | n + 1, i, h, h1, h2, h3 => by
    obtain ⟨c, hc⟩ := yB s i (by omega)
    rw [pcs_on hc (fun e => h3 i c (Nat.le_refl _) (by omega) hc (UInt8.toNat_inj.1 e))]
    exact pcs_skip n (i + 1) (by omega) (by omega) h2 (fun j c h4 h5 => h3 j c (by omega) h5)
def ibF (s : List UInt8) (c : Int) : Int := Lib.indexByte s c.toNat.toUInt8
theorem ib_spec (l : List UInt8) : (ibF l 10 = -1 ∧ ∀ (j : Nat) (c : UInt8), l[j]? = some c → c ≠ 10) ∨ ∃ k : Nat, ibF l 10 = k ∧ k < l.length ∧ l[k]? = some 10 ∧ ∀ (j : Nat) (c : UInt8), j < k → l[j]? = some c → c ≠ 10 := by
 show (Lib.indexByte l 10 = -1 ∧ _) ∨ ∃ k : Nat, Lib.indexByte l 10 = k ∧ _
 induction l with
 | nil => exact .inl ⟨rfl, fun j c h => by simp at h⟩
 | cons x l ih =>
  rw [Lib.indexByte]
  by_cases hx : x = 10
  ·subst hx
   exact .inr ⟨0, by simp, by simp, by simp, fun j c h => by omega⟩
  ·have hb : (x == 10) = false := by simpa using hx
   rw [hb]
   rcases ih with ⟨a, b⟩ | ⟨k, a, b, e, d⟩
   ·rw [a]
    refine .inl ⟨by simp, fun j c h => ?_⟩
    cases j with
    | zero => simp at h; subst h; exact hx
    | succ j => exact b j c (by simpa using h)
   ·rw [a]
    have hk : (((k : Nat) : Int) == -1) = false := by rw [beq_eq_false_iff_ne]; omega
    rw [hk]
    refine .inr ⟨k + 1, by simp, by simp; omega, by simpa using e, fun j c hj h => ?_⟩
    cases j with
    | zero => simp at h; subst h; exact hx
    | succ j => exact d j c (by omega) (by simpa using h)
def toI (p : Nat × Nat × Nat) : Int × Int × Int := ((p.1 : Int), (p.2.1 : Int), (p.2.2 : Int))
def pcsI (s : List UInt8) : List (Int × Int × Int) := (pcsFrom s (markN s) (markN s)).map toI
theorem pcsI_end {s : List UInt8} {a : Nat} {acc : List (Int × Int × Int)} (ha : a ≤ s.length) (hn : ibF (s.drop a) 10 < 0) (hi : acc ++ (pcsFrom s a a).map toI = pcsI s) : acc ++ [((a : Int), (s.length : Int), (s.length : Int))] = pcsI s := by
 rcases ib_spec (s.drop a) with ⟨d, b⟩ | ⟨k, d, b, f, e⟩
 ·rw [← hi, pcs_skip (s := s) (a := a) (k := s.length) _ a rfl ha (Nat.le_refl _) (fun j c h5 h6 h7 => b (j - a) c (by rw [List.getElem?_drop, show a + (j - a) = j by omega]; exact h7)), pcs_end (Nat.le_refl _)]
  rfl
 ·omega
theorem ib_at {s : List UInt8} {a : Nat} (hn : 0 ≤ ibF (s.drop a) 10) : a + (ibF (s.drop a) 10).toNat < s.length ∧ s[a + (ibF (s.drop a) 10).toNat]? = some 10 ∧ noB 10 s a (a + (ibF (s.drop a) 10).toNat) := by
 rcases ib_spec (s.drop a) with ⟨d, e⟩ | ⟨k, d, e, b, f⟩
 ·omega
 ·rw [d, Int.toNat_natCast]
  rw [List.length_drop] at e
  rw [List.getElem?_drop] at b
  refine ⟨by omega, b, fun j c h5 h6 h7 => f (j - a) c (by omega) (by rw [List.getElem?_drop, show a + (j - a) = j by omega]; exact h7)⟩
theorem pcsI_step {s : List UInt8} {a : Nat} {acc : List (Int × Int × Int)} (hn : 0 ≤ ibF (s.drop a) 10) (hi : acc ++ (pcsFrom s a a).map toI = pcsI s) :
  (acc ++ [((a : Int), ((crN s a (a + (ibF (s.drop a) 10).toNat) : Nat) : Int), (((a + (ibF (s.drop a) 10).toNat + 1 : Nat)) : Int))]) ++ (pcsFrom s (a + (ibF (s.drop a) 10).toNat + 1) (a + (ibF (s.drop a) 10).toNat + 1)).map toI = pcsI s := by
 obtain ⟨b, c, d⟩ := ib_at hn
 rw [← hi, pcs_skip (s := s) (a := a) _ a rfl (Nat.le_add_right _ _) (Nat.le_of_lt b) d, pcs_nl c rfl]
 simp [toI]
def pcOk (s : List UInt8) (p : Int × Int × Int) : Prop := 0 ≤ p.1 ∧ p.1 ≤ p.2.1 ∧ p.2.1 ≤ p.2.2 ∧ p.2.2 ≤ s.length
theorem pcs_okN (s : List UInt8) : ∀ (n a i : Nat), s.length - i = n → a ≤ i → i ≤ s.length → ∀ p ∈ pcsN s n a i, p.1 ≤ p.2.1 ∧ p.2.1 ≤ p.2.2 ∧ p.2.2 ≤ s.length
 | 0, a, i, h, h1, h2 => by
  intro p hp
  rw [pcsN] at hp
  obtain rfl := List.mem_singleton.1 hp
  exact ⟨by simp only; omega, Nat.le_refl _, Nat.le_refl _⟩
 | n + 1, a, i, h, h1, h2 => by
  intro p hp
  rw [pcsN] at hp
  split at hp
  ·have := crN_le s a i
   rcases List.mem_cons.1 hp with rfl | hp
   ·exact ⟨this.2 h1, by simp only; omega, by simp only; omega⟩
   ·exact pcs_okN s n (i + 1) (i + 1) (by omega) (Nat.le_refl _) (by omega) p hp
  ·exact pcs_okN s n a (i + 1) (by omega) (by omega) (by omega) p hp
theorem pcsI_ok {s : List UInt8} {i : Nat} {p : Int × Int × Int} (h : (pcsI s)[i]? = some p) : pcOk s p := by
 have hm := List.mem_of_getElem? h
 obtain ⟨q, hq, rfl⟩ := List.mem_map.1 hm
 have hk := mark_len s
 obtain ⟨b, c, a⟩ := pcs_okN s _ _ _ rfl (Nat.le_refl _) hk q hq
 exact ⟨by simp only [toI]; omega, by simp only [toI]; omega, by simp only [toI]; omega, by simp only [toI]; omega⟩
theorem pcsN_len (s : List UInt8) : ∀ (n a i : Nat), 1 ≤ (pcsN s n a i).length ∧ (pcsN s n a i).length ≤ n + 1
 | 0, a, i => by simp [pcsN]
 | n + 1, a, i => by
  have b := pcsN_len s n (i + 1) (i + 1)
  have c := pcsN_len s n a (i + 1)
  rw [pcsN]
  split
  ·rw [List.length_cons]; omega
  ·omega
theorem pcsI_len (s : List UInt8) : 1 ≤ (pcsI s).length ∧ (pcsI s).length ≤ s.length + 1 := by
 unfold pcsI pcsFrom
 rw [List.length_map]
 have := pcsN_len s (s.length - markN s) (markN s) (markN s)
 omega
def toldL (s : List UInt8) : Nat → List (Int × Int × Int) → List (Int × List UInt8)
  | _, [] => []
  | k, p :: l => if p.1 = p.2.2 then [] else (((k + 1 : Nat) : Int), (s.take p.2.1.toNat).drop p.1.toNat) :: toldL s (k + 1) l
def toldF (s : List UInt8) : List (Int × List UInt8) := toldL s 0 (pcsI s)
theorem told_stop {s : List UInt8} {i : Nat} {p : Int × Int × Int} {pre : List (Int × List UInt8)} (hp : (pcsI s)[i]? = some p) (h : p.1 = p.2.2) (hi : pre ++ toldL s i ((pcsI s).drop i) = toldF s) : pre = toldF s := by
 rw [vK hp, toldL, if_pos h, List.append_nil] at hi; exact hi
theorem told_end {s : List UInt8} {i : Nat} {pre : List (Int × List UInt8)} (h : (pcsI s).length ≤ i) (hi : pre ++ toldL s i ((pcsI s).drop i) = toldF s) : pre = toldF s := by
 rw [List.drop_eq_nil_of_le h, toldL, List.append_nil] at hi; exact hi
theorem told_step {s : List UInt8} {i : Nat} {p : Int × Int × Int} {pre : List (Int × List UInt8)} (hp : (pcsI s)[i]? = some p) (h : p.1 ≠ p.2.2) (hi : pre ++ toldL s i ((pcsI s).drop i) = toldF s) :
  (pre ++ [(((i + 1 : Nat) : Int), (s.take p.2.1.toNat).drop p.1.toNat)]) ++ toldL s (i + 1) ((pcsI s).drop (i + 1)) = toldF s := by
 rw [vK hp, toldL, if_neg h] at hi; rw [← hi]; simp
theorem toldL_len (s : List UInt8) : ∀ (l : List (Int × Int × Int)) (k : Nat), (toldL s k l).length ≤ l.length
 | [], _ => by simp [toldL]
 | p :: l, k => by
  rw [toldL]
  split
  ·simp
  ·simp [toldL_len s l (k + 1)]
theorem told_len (s : List UInt8) : (toldF s).length ≤ s.length + 1 := Nat.le_trans (toldL_len _ _ _) (pcsI_len s).2
theorem toldL_short (s : List UInt8) : ∀ (l : List (Int × Int × Int)) (k : Nat), ∀ x ∈ toldL s k l, x.2.length ≤ s.length ∧ (k : Int) < x.1 ∧ x.1 ≤ k + l.length
 | [], _ => by simp [toldL]
 | p :: l, k => by
  intro x hx
  rw [toldL] at hx
  split at hx
  ·simp at hx
  ·rcases List.mem_cons.1 hx with rfl | hx
   ·simp only [List.length_drop, List.length_take, List.length_cons]; omega
   ·have := toldL_short s l (k + 1) x hx
    simp only [List.length_cons]; omega
theorem told_short {s : List UInt8} {x : Int × List UInt8} (h : x ∈ toldF s) : x.2.length ≤ s.length ∧ 0 < x.1 ∧ x.1 ≤ s.length + 1 := by
 have a := toldL_short s _ _ x h
 have b := (pcsI_len s).2
 omega
theorem pre_of3 {α : Type} {pre l all : List α} {x : α} (h : (pre ++ [x]) ++ l = all) : pre ++ [x] <+: all := ⟨l, h⟩
theorem pcsZ_end {s : List UInt8} {a : Int} {acc : List (Int × Int × Int)} (h0 : 0 ≤ a) (ha : a ≤ s.length) (hn : ibF (s.drop a.toNat) 10 < 0) (hi : acc ++ (pcsFrom s a.toNat a.toNat).map toI = pcsI s) : acc ++ [(a, ((s.length : Nat) : Int), ((s.length : Nat) : Int))] = pcsI s := by
 obtain ⟨k, rfl⟩ := Int.eq_ofNat_of_zero_le h0
 exact pcsI_end (by omega) hn hi
theorem ib_range (s : List UInt8) (c : Int) : -1 ≤ ibF s c ∧ (0 ≤ ibF s c → ibF s c < s.length) := by
 refine ⟨Lib.indexByte_ge _ _, ?_⟩
 unfold ibF
 induction s with
 | nil => intro h; simp [Lib.indexByte] at h
 | cons b l ih =>
  rw [Lib.indexByte]
  split
  ·intro _; simp
  ·split
   ·intro h; omega
   ·rename_i h2; intro h
    have d : Lib.indexByte l c.toNat.toUInt8 ≠ -1 := by simpa using h2
    have a := Lib.indexByte_ge l c.toNat.toUInt8
    have := ih (by omega)
    rw [List.length_cons]; omega
theorem pcsZ_step {s : List UInt8} {a n to : Int} {acc : List (Int × Int × Int)} (h0 : 0 ≤ a) (hn : n = ibF (s.drop a.toNat) 10) (hn0 : 0 ≤ n)
  (ht : (to = a + n - 1 ∧ 0 < n ∧ ∃ c : UInt8, s[(a + n - 1).toNat]? = some c ∧ c.toNat = 13) ∨ (to = a + n ∧ (n ≤ 0 ∨ ∃ c : UInt8, s[(a + n - 1).toNat]? = some c ∧ c.toNat ≠ 13)))
  (hi : acc ++ (pcsFrom s a.toNat a.toNat).map toI = pcsI s) : (acc ++ [(a, to, a + n + 1)]) ++ (pcsFrom s (a + n + 1).toNat (a + n + 1).toNat).map toI = pcsI s := by
 obtain ⟨k, rfl⟩ := Int.eq_ofNat_of_zero_le h0
 subst hn
 have h := pcsI_step (a := k) hn0 hi
 obtain ⟨j, hj⟩ := Int.eq_ofNat_of_zero_le hn0
 simp only [Int.toNat_natCast] at hj ht ⊢
 rw [hj] at h ht ⊢
 simp only [Int.toNat_natCast] at h
 have g : ((k : Int) + (j : Int) + 1).toNat = k + j + 1 := by omega
 rw [g]
 have f : to = ((crN s k (k + j) : Nat) : Int) := by
  unfold crN
  rcases ht with ⟨rfl, d, c, hc, b⟩ | ⟨rfl, d⟩
  ·rw [show ((k : Int) + (j : Int) - 1).toNat = k + j - 1 by omega] at hc
   rw [if_pos ⟨by omega, by rw [getD_some hc]; exact UInt8.toNat_inj.1 b⟩]; omega
  ·rw [if_neg]
   ·omega
   ·rintro ⟨i, e⟩
    rcases d with d | ⟨c, hc, b⟩
    ·omega
    ·rw [show ((k : Int) + (j : Int) - 1).toNat = k + j - 1 by omega] at hc
     rw [getD_some hc] at e
     exact b (by rw [e]; rfl)
 rw [f, show ((k : Int) + (j : Int) + 1) = (((k + j + 1 : Nat)) : Int) by omega]
 exact h
def linesF (l : List (Int × List UInt8)) : List LineD := l.map fun x => (scanF x.1 x.2).1
def badL : List (Int × List UInt8) → Int × Int
  | [] => (0, 0)
  | x :: l => if (scanF x.1 x.2).2 ≠ 0 then (x.1, (scanF x.1 x.2).2) else badL l
theorem pre_mem {α : Type} {pre els : List α} {x : α} (h : pre ++ [x] <+: els) : x ∈ els := by obtain ⟨l, rfl⟩ := h; simp
end Go.FK
end

/- === PLref === -/
section
/- Plain laws of chapter 3's reference: its characters, its pieces, its cuts. -/
namespace Go.FK
open Go Go.RowKit
theorem xA {α : Type} {l : List α} {i : Nat} {x y : α} (h : l[i]? = some x) : (l.set i y)[i]? = some y := by
 obtain ⟨a, _⟩ := List.getElem?_eq_some_iff.1 h
 simp [a]
def encChar (x : Nat × Nat × Int × Bool) : List Value := [.int .i64 (x.1 : Nat), .int .i64 (x.2.1 : Nat), .int .i32 x.2.2.1, .bool x.2.2.2]
def rawC (x : Nat × Nat × Nat) : Nat × Nat × Int × Bool := (x.1, 0, (x.2.2 : Int), false)
def fulC (x : Nat × Nat × Nat) : Nat × Nat × Int × Bool := (x.1, x.2.1, (x.2.2 : Int), !wrongC x)
def chF (s : List UInt8) : List (Nat × Nat × Int × Bool) := (charsFrom s 0).map fulC
def encPcN (x : Nat × Nat × Nat) : List Value := [.int .i64 (x.1 : Nat), .int .i64 (x.2.1 : Nat), .int .i64 (x.2.2 : Nat)]
def keepP (p : Nat × Nat × Nat) : Bool := decide (p.1 < p.2.2)
def pcsR (s : List UInt8) : List (Nat × Nat × Nat) := (pcsFrom s (markN s) (markN s)).filter keepP
theorem headF_len (s : List UInt8) : (headF s).length ≤ s.length := Nat.le_trans (trm_len _) (qI s [35]).1
theorem noteF_len (s : List UInt8) : (noteF s).length ≤ s.length := Nat.le_trans (trm_len _) (qI s [35]).2
end Go.FK
end

/- === PLlaw === -/
section
/- Plain laws for chapter 3's statements. -/
namespace Go.FK
open Go Go.RowKit
theorem splF_len (b : UInt8) : ∀ l : List UInt8, (splF b l).length ≤ l.length + 1
 | [] => by simp [splF]
 | c :: l => by
  have ih := splF_len b l
  rw [splF]
  split
  ·simp; omega
  ·split <;> simp_all <;> omega
theorem fields_len (s : List UInt8) : (fieldsF s).length ≤ s.length + 1 := by
 unfold fieldsF
 split
 ·simp
 ·rw [List.length_map]; exact splF_len 59 s
theorem fields_lenC (s : List UInt8) : (cutF s).1.length ≤ s.length + 1 := by
 have a := fields_len (Lib.cut s [35]).1
 have b := (qI s [35]).1
 show (fieldsF (Lib.cut s [35]).1).length ≤ _
 omega
theorem scan_flen (no : Int) (s : List UInt8) : (scanF no s).1.2.2.2.1.length ≤ s.length + 1 := by
 have g := fields_lenC s
 have c := fields_lenC ((noteF s).drop 9)
 have d := noteF_len s
 have f := fields_len (ordF s).2.1
 have a := (qI ((headF s).drop 1) [58]).2
 have e := headF_len s
 rw [List.length_drop] at c a
 have b : (ordF s).2.1.length ≤ (headF s).length - 1 := a
 unfold scanF
 repeat' split
 all_goals simp only [zeroL, List.length_nil]
 all_goals omega
end Go.FK
end

/- === PLplc === -/
section
/- Plain laws of chapter 3: places, lines and columns. -/
namespace Go.FK
open Go Go.RowKit
section ops
variable {r : Option Nat} {P : Program} {n : Nat} {Q : Post} {s : Fm} {w : World} {ops : Array Oper} {rest : List Oper}
variable {d : Option Tmp} {ty : TypeId} {pos : String} {af : Array Edge}
end ops
def endsF (s : List UInt8) : List (Nat × Nat × Nat) := pcsFrom s (markN s) (markN s)
def textOf (s : List UInt8) (p : Nat × Nat × Nat) : List UInt8 := (s.take p.2.1).drop p.1
def placeF (s : List UInt8) (line col : Int) : Int × Int :=
  if line < 1 ∨ ((endsF s).length : Int) < line ∨ col < 1 then (0, 2) else
  match (endsF s)[(line - 1).toNat]? with
  | none => (0, 2)
  | some p => match (charsFrom (textOf s p) 0)[(col - 1).toNat]? with
    | some c => (((p.1 + c.1 : Nat) : Int), 0)
    | none => if col = ((charsFrom (textOf s p) 0).length : Int) + 1 then ((p.2.1 : Int), 0) else (0, 2)
def fromAt (s : List UInt8) (i : Nat) : Nat := ((endsF s).getD i (0, 0, 0)).1
def lixF (s : List UInt8) (b : Int) : Nat → Nat
  | 0 => 0
  | i + 1 => if i = 0 ∨ (fromAt s i : Int) ≤ b then i else lixF s b i
def cntE (x : Int) (l : List (Nat × Nat × Nat)) : Nat := (l.filter fun c => decide (((c.1 + c.2.1 : Nat) : Int) ≤ x)).length
def cntA (x : Int) (l : List (Nat × Nat × Nat)) : Nat := (l.filter fun c => decide (0 < c.1 ∧ (c.1 : Int) ≤ x)).length
def whereF (s : List UInt8) (b : Int) : Int × Int :=
  if b < 0 ∨ (s.length : Int) < b then (0, 0) else
  (((lixF s b (endsF s).length + 1 : Nat) : Int), ((1 + cntE (b - fromAt s (lixF s b (endsF s).length)) (charsFrom (textOf s ((endsF s).getD (lixF s b (endsF s).length) (0, 0, 0))) 0) : Nat) : Int))
end Go.FK
end

/- === PLeach === -/
section
/- Plain laws of chapter 3: what is told of a text, by the pieces of the reference. -/
namespace Go.FK
open Go Go.RowKit
def encTold (x : Int × List UInt8) : List Value := [.int .i64 x.1, S x.2]
def allF (s : List UInt8) (few : Int) : List (Int × List UInt8) := if 1 ≤ few ∧ few < ((toldF s).length : Int) then (toldF s).take few.toNat else toldF s
def toldR (s : List UInt8) : Nat → List (Nat × Nat × Nat) → List (Int × List UInt8)
  | _, [] => []
  | k, p :: l => (((k + 1 : Nat) : Int), (s.take p.2.1).drop p.1) :: toldR s (k + 1) l
def okPc (s : List UInt8) (p : List (Nat × Nat × Nat)) : Prop := ∀ x ∈ p, x.1 ≤ x.2.1 ∧ x.2.1 ≤ s.length
end Go.FK
end

/- === PLrds === -/
section
/- Plain laws of chapter 3: the reference's lines, one by one; lists of lines held against each other. -/
namespace Go.FK
open Go Go.RowKit
open Classical in
noncomputable def eqLs (a b : List LineV) : Bool := decide (a.map stripL = b.map stripL)
def NRd (w : World) (v : Value) (xs : List LineV) : Prop := Rd w encLine v xs ∧ ∀ x ∈ xs, Rd w encStr x.v x.fs
section
variable {F : Nat} {w w' : World} {B E k i : Nat} {enc : LineV → List Value} {v v' q : Value} {xs ys : List LineV}
theorem NRd.nil (w : World) : NRd w (.slice none 0 0) [] := ⟨Rd.nil _ _, fun _ h => by cases h⟩
def ND (xs : List LineV) : Prop := ∀ (i j : Nat) (x y : LineV) (g : Nat), xs[i]? = some x → xs[j]? = some y → i ≠ j → x.v.ownBlock = some g → y.v.ownBlock ≠ some g
def SRow (F i : Nat) (w : World) (B E k : Nat) (enc : LineV → List Value) (v : Value) (xs : List LineV) : Prop := Row w B E k enc v xs ∧ (∀ (j : Nat) (x : LineV), i ≤ j → xs[j]? = some x → Row w B F 1 encStr x.v x.fs) ∧ ND xs
theorem SRow.of (h : NRow F w B E k enc v xs) (hd : ND xs) : SRow F 0 w B E k enc v xs := ⟨h.1, fun j x _ hx => h.2 x (List.mem_of_getElem? hx), hd⟩
end
end Go.FK
end

/- === FKq === -/
section
/- FKq: arguments of plain data, opened: structs, slices of plain elements, lines. My own text. -/
namespace Go.FK
open Go Go.RowKit Go.ChangeShapes Go.WideShapes
def CapOk (v : Value) : Prop := ∀ a n c, v = .slice a n c → n ≤ c
theorem all_choose {α : Type} {n : Nat} {p : Nat → α → Prop} (h : ∀ i, i < n → ∃ a, p i a) : ∃ xs : List α, xs.length = n ∧ ∀ i a, xs[i]? = some a → p i a := by
 refine ⟨List.ofFn (fun i : Fin n => Classical.choose (h i.1 i.2)), by simp, fun i a hi => ?_⟩
 rw [List.getElem?_ofFn] at hi
 split at hi
 ·rename_i hn
  cases hi
  exact Classical.choose_spec (h i hn)
 ·cases hi
structure Flat (P : Program) (t : TypeId) (k : Nat) {α : Type} (enc : α → List Value) (dat : (H : Type) → α → DataW H) (good : α → Prop) : Prop where
  len : ∀ a, (enc a).length = k
  size : P.cellsOf t = k
  dec : ∀ {H : Type} {en : TypeId × Value → H} {w : World} {base : Nat} {spare : Nat → Bool} {held : Bool} {n : Nat} {cs : List Value} {x : DataW H × List MemPlace}, DataW.trod en P w base spare held n t cs = some x → ∃ a, cs = enc a ∧ x = (dat H a, []) ∧ good a
section
variable {P : Program} {t : TypeId}
theorem vC {k : IntKind} (ht : P.underlying t = some (.int k)) (hc : P.cellsOf t = 1) : Flat P t 1 (fun x : Int => [.int k x]) (fun H x => .lit (.int k x)) (fun x => (Lit.int k x).wf = true) := ⟨fun _ => rfl, hc, fun h => by
 obtain ⟨n, a, b, c⟩ := DataW.trod_int ht h
 exact ⟨n, a, b, c⟩⟩
theorem trod_cells2 {H : Type} {en : TypeId × Value → H} {w : World} {base : Nat} {spare : Nat → Bool} {held : Bool} {n : Nat} {cs : List Value} {x : DataW H × List MemPlace} {f0 f1 : Field} (hs : P.underlying t = some (.struct #[f0, f1])) (hone : Go.Deep.oneCellFields P #[f0, f1] = true) (hC : P.cellsOf t = 2)
  (h : DataW.trod en P w base spare held n t cs = some x) : ∃ c0 c1, ∃ (y0 y1 : DataW H × List MemPlace), ∃ m, cs = [c0, c1] ∧ x = (.agg [y0.1, y1.1], y0.2 ++ (y1.2)) ∧ DataW.trod en P w base spare held m f0.type [c0] = some y0 ∧ DataW.trod en P w base spare held m f1.type [c1] = some y1 := by
 obtain ⟨xs, m, _, rfl, hl, hlen, hf⟩ := DataW.trod_struct hs h
 rw [hC] at hl
 match xs, hlen, cs, hl with
 | [y0, y1], _, [c0, c1], _ =>
  refine ⟨c0, c1, y0, y1, m, rfl, by simp, ?_, ?_⟩
  ·have q := Go.Deep.hone_of hone 0 f0 rfl
   have z := hf 0 f0 rfl
   rw [q.1, q.2] at z
   exact z
  ·have q := Go.Deep.hone_of hone 1 f1 rfl
   have z := hf 1 f1 rfl
   rw [q.1, q.2] at z
   exact z
theorem flat_struct2 {α0 α1 : Type} {e0 : α0 → List Value} {d0 : (H : Type) → α0 → DataW H} {g0 : α0 → Prop} {e1 : α1 → List Value} {d1 : (H : Type) → α1 → DataW H} {g1 : α1 → Prop} {f0 f1 : Field} (hs : P.underlying t = some (.struct #[f0, f1])) (hone : Go.Deep.oneCellFields P #[f0, f1] = true) (hC : P.cellsOf t = 2) (F0 : Flat P f0.type 1 e0 d0 g0) (F1 : Flat P f1.type 1 e1 d1 g1) :
  Flat P t 2 (fun a : α0 × α1 => e0 (a.1) ++ e1 (a.2)) (fun H a => .agg [d0 H (a.1), d1 H (a.2)]) (fun a => g0 (a.1) ∧ g1 (a.2)) := ⟨fun a => by simp only [List.length_append, F0.len, F1.len], hC, fun h => by
 obtain ⟨n, k, l, o, m, rfl, rfl, e, d⟩ := trod_cells2 hs hone hC h
 obtain ⟨c, j, rfl, b⟩ := F0.dec e
 obtain ⟨i, f, rfl, g⟩ := F1.dec d
 refine ⟨(c, i), ?_, rfl, b, g⟩
 simp only
 rw [← j, ← f]; rfl⟩
theorem trod_cells3 {H : Type} {en : TypeId × Value → H} {w : World} {base : Nat} {spare : Nat → Bool} {held : Bool} {n : Nat} {cs : List Value} {x : DataW H × List MemPlace} {f0 f1 f2 : Field} (hs : P.underlying t = some (.struct #[f0, f1, f2])) (hone : Go.Deep.oneCellFields P #[f0, f1, f2] = true) (hC : P.cellsOf t = 3)
  (h : DataW.trod en P w base spare held n t cs = some x) : ∃ c0 c1 c2, ∃ (y0 y1 y2 : DataW H × List MemPlace), ∃ m, cs = [c0, c1, c2] ∧ x = (.agg [y0.1, y1.1, y2.1], y0.2 ++ (y1.2 ++ (y2.2))) ∧ DataW.trod en P w base spare held m f0.type [c0] = some y0 ∧ DataW.trod en P w base spare held m f1.type [c1] = some y1 ∧ DataW.trod en P w base spare held m f2.type [c2] = some y2 := by
 obtain ⟨xs, m, _, rfl, hl, hlen, hf⟩ := DataW.trod_struct hs h
 rw [hC] at hl
 match xs, hlen, cs, hl with
 | [y0, y1, y2], _, [c0, c1, c2], _ =>
  refine ⟨c0, c1, c2, y0, y1, y2, m, rfl, by simp, ?_, ?_, ?_⟩
  ·have q := Go.Deep.hone_of hone 0 f0 rfl
   have z := hf 0 f0 rfl
   rw [q.1, q.2] at z
   exact z
  ·have q := Go.Deep.hone_of hone 1 f1 rfl
   have z := hf 1 f1 rfl
   rw [q.1, q.2] at z
   exact z
  ·have q := Go.Deep.hone_of hone 2 f2 rfl
   have z := hf 2 f2 rfl
   rw [q.1, q.2] at z
   exact z
theorem flat_struct3 {α0 α1 α2 : Type} {e0 : α0 → List Value} {d0 : (H : Type) → α0 → DataW H} {g0 : α0 → Prop} {e1 : α1 → List Value} {d1 : (H : Type) → α1 → DataW H} {g1 : α1 → Prop} {e2 : α2 → List Value} {d2 : (H : Type) → α2 → DataW H} {g2 : α2 → Prop} {f0 f1 f2 : Field} (hs : P.underlying t = some (.struct #[f0, f1, f2])) (hone : Go.Deep.oneCellFields P #[f0, f1, f2] = true) (hC : P.cellsOf t = 3) (F0 : Flat P f0.type 1 e0 d0 g0) (F1 : Flat P f1.type 1 e1 d1 g1) (F2 : Flat P f2.type 1 e2 d2 g2) :
  Flat P t 3 (fun a : α0 × α1 × α2 => e0 (a.1) ++ e1 (a.2.1) ++ e2 (a.2.2)) (fun H a => .agg [d0 H (a.1), d1 H (a.2.1), d2 H (a.2.2)]) (fun a => g0 (a.1) ∧ g1 (a.2.1) ∧ g2 (a.2.2)) := ⟨fun a => by simp only [List.length_append, F0.len, F1.len, F2.len], hC, fun h => by
 obtain ⟨s, p, q, r, v, u, m, rfl, rfl, i, g, c⟩ := trod_cells3 hs hone hC h
 obtain ⟨e, o, rfl, d⟩ := F0.dec i
 obtain ⟨l, j, rfl, k⟩ := F1.dec g
 obtain ⟨f, b, rfl, n⟩ := F2.dec c
 refine ⟨(e, l, f), ?_, rfl, d, k, n⟩
 simp only
 rw [← o, ← j, ← b]; rfl⟩
theorem flat_idx {α : Type} {enc : α → List Value} {k : Nat} (hk : ∀ a, (enc a).length = k) (hp : 0 < k) {xs : List α} {j : Nat} {u : Value} (h : (xs.flatMap enc)[j]? = some u) : ∃ x, xs[j / k]? = some x ∧ (enc x)[j % k]? = some u := by
 have hlen : ∀ l : List α, (l.flatMap enc).length = l.length * k := fun l => by
  induction l with
  | nil => simp
  | cons a l ih => rw [List.flatMap_cons, List.length_append, ih, hk, List.length_cons, Nat.succ_mul]; omega
 have hj := (List.getElem?_eq_some_iff.1 h).1
 rw [hlen] at hj
 have hi : j / k < xs.length := Nat.div_lt_of_lt_mul (by rw [Nat.mul_comm]; exact hj)
 obtain ⟨x, hx⟩ := yB xs (j / k) hi
 have := flat_at enc k hk xs (j / k) (j % k) hx (Nat.mod_lt _ hp)
 rw [Nat.mul_comm, Nat.div_add_mod, h] at this
 exact ⟨x, hx, this.symm⟩
theorem add_two (a : Addr) {i j l : Nat} (h : j = i + l) : a.add j = (a.add i).add l := by
 by_cases b : i = 0
 ·subst b; rw [Nat.zero_add] at h; subst h; simp [Addr.add]
 ·by_cases c : l = 0
  ·subst c; subst h; simp [Addr.add]
  ·have : j ≠ 0 := by omega
   simp only [Addr.add, b, c, this, if_false]; subst h; rw [Nat.add_assoc]
variable {H : Type} {en : TypeId × Value → H} {w : World} {base n : Nat} {spare : Nat → Bool} {held : Bool} {cs : List Value} {x : DataW H × List MemPlace}
theorem open_flat {e k : Nat} {α : Type} {enc : α → List Value} {dat : (H : Type) → α → DataW H} {good : α → Prop} (F : Flat P e k enc dat good) (hp : 0 < k) (ht : P.underlying t = some (.slice e)) (h : DataW.trod en P w base spare held n t cs = some x) :
  ∃ v, ∃ xs : List α, ∃ rest : List (DataW H), cs = [v] ∧ Rd w enc v xs ∧ CapOk v ∧ (∀ a ∈ xs, good a) ∧ (x.1 = .nil ∧ xs = [] ∨ x.1 = .slice (xs.map (dat H)) rest) := by
 rcases DataW.trod_slice ht h with ⟨rfl, rfl⟩ | ⟨a, len, cap, elems, rest, m, _, rfl, rfl, hb, hl, hm, hlen, hel, _, _⟩
 ·exact ⟨_, [], [], rfl, ⟨none, 0, rfl, .inl rfl⟩, (fun a n c q => by cases q; exact Nat.le_refl _), (fun _ q => by cases q), .inl ⟨rfl, rfl⟩⟩
 ·have hz : ∀ i, i < len → ∃ b : α, elems[i]? = some (dat H b, []) ∧ good b ∧ w.cells? base (a.add (i * P.cellsOf e)) (P.cellsOf e) = some (enc b) := by
   intro i hi
   have q := hel i hi
   obtain ⟨y, hy⟩ := yB elems i (by omega)
   rw [hy, Option.bind_eq_some_iff] at q
   obtain ⟨cs', p, l⟩ := q
   obtain ⟨b, rfl, rfl, g⟩ := F.dec l
   exact ⟨b, hy, g, p⟩
  obtain ⟨xs, hxl, hx⟩ := all_choose hz
  refine ⟨_, xs, rest.map (·.1), rfl, ?_, fun a' n' c' q => by cases q; exact hl, fun b hb => ?_, .inr ?_⟩
  ·refine ⟨some a, cap, by rw [hxl], ?_⟩
   by_cases o : xs.length = 0
   ·exact .inl o
   ·right
    have cell : ∀ j u, (xs.flatMap enc)[j]? = some u → w.cell? (a.add j) = some u := by
     intro j u hu
     obtain ⟨b, d, f⟩ := flat_idx F.len hp hu
     obtain ⟨_, hcl, hc⟩ := World.cells?_some (hx _ _ d).2.2
     rw [F.size] at hc
     have := hc (j % k) (Nat.mod_lt _ hp)
     rw [f] at this
     rw [← this, show a.add j = (a.add (j / k * k)).add (j % k) from add_two a (by have := Nat.div_add_mod j k; rw [Nat.mul_comm] at this; omega)]
    obtain ⟨g, off, spot⟩ := a
    have hspot : spot = none := by
     obtain ⟨b, hb⟩ := yB xs 0 (by omega)
     obtain ⟨u, hu⟩ := yB (enc b) 0 (by rw [F.len]; exact hp)
     have := flat_at enc k F.len xs 0 0 hb hp
     rw [hu] at this
     simpa [Addr.add] using World.cell?_spot (cell _ _ this)
    subst hspot
    exact ⟨g, off, rfl, fun j u hu => by have := cell j u hu; rw [Go.WideShapes.add_plain] at this; exact this⟩
  ·obtain ⟨i, hi⟩ := List.getElem?_of_mem hb
   exact (hx i b hi).2.1
  ·have : elems.map (·.1) = xs.map (dat H) := by
    apply List.ext_getElem?
    intro i
    rw [List.getElem?_map, List.getElem?_map]
    by_cases hi : i < len
    ·obtain ⟨b, hb⟩ := yB xs i (by omega)
     rw [hb, (hx i b hb).1]; rfl
    ·rw [List.getElem?_eq_none (by omega), List.getElem?_eq_none (by omega)]; rfl
   rw [this]
theorem open_rdF {v : Value} {d : DataW H} {ps : List MemPlace} {e k b0 : Nat} {α : Type} {enc : α → List Value} {dat : (H : Type) → α → DataW H} {good : α → Prop} (F : Flat P e k enc dat good) (hp : 0 < k) (ht : P.underlying t = some (.slice e)) (hok : Value.okWide P w .any b0 t v) (h : DataW.Trod en P w base spare held t v d ps) :
  ∃ xs : List α, ∃ rest : List (DataW H), Rd w enc v xs ∧ CapOk v ∧ (∀ a ∈ xs, good a) ∧ (d = .nil ∧ xs = [] ∨ d = .slice (xs.map (dat H)) rest) := by
 obtain ⟨a, len, cap, rfl⟩ := okWide_slice ht hok
 obtain ⟨fuel, hf⟩ := h
 obtain ⟨v', xs, rest, hv, f, g, c, b⟩ := open_flat F hp ht hf
 simp [Value.cells] at hv
 subst hv
 exact ⟨xs, rest, f, g, c, b⟩
end
end Go.FK
end

/- === PHexM === -/
section
/- Plain functions of chapter 4: code points in hexadecimal. -/
namespace Go.FK
open Go Go.RowKit
def hexTab : List UInt8 := [48, 49, 50, 51, 52, 53, 54, 55, 56, 57, 65, 66, 67, 68, 69, 70]
def digitV (c : Nat) : Int := if 48 ≤ c ∧ c ≤ 57 then (c : Int) - 48 else if 65 ≤ c ∧ c ≤ 70 then (c : Int) - 55 else -1
theorem digitV_range (c : Nat) : -1 ≤ digitV c ∧ digitV c ≤ 15 := by
 unfold digitV; repeat' split
 all_goals omega
set_option maxRecDepth 100000 in
theorem ibF_tab (c : UInt8) : ibF [48, 49, 50, 51, 52, 53, 54, 55, 56, 57, 65, 66, 67, 68, 69, 70] ((c.toNat : Nat) : Int) = digitV c.toNat := by
 have key : (List.range 256).all (fun n => Lib.indexByte hexTab (UInt8.ofNat n) == digitV n) = true := by kernel_rfl
 have h := List.all_eq_true.1 key c.toNat (List.mem_range.2 (by have := c.toNat_lt; omega))
 have a : Lib.indexByte hexTab (UInt8.ofNat c.toNat) = digitV c.toNat := by simpa using h
 unfold ibF
 rw [Int.toNat_natCast]
 exact a
def hexV : List UInt8 → Nat → Option Nat
  | [], n => some n
  | c :: l, n => if digitV c.toNat < 0 then none else hexV l (16 * n + (digitV c.toNat).toNat)
def hexF (s : List UInt8) : Int × Int :=
  if (s.length < 4 ∨ 6 < s.length) ∨ (4 < s.length ∧ s.getD 0 0 = 48) then (0, 40) else
  match hexV s 0 with
  | none => (0, 40)
  | some n => if 1114111 < n then (0, 40) else ((n : Int), 0)
theorem hexF_len {s : List UInt8} (h : s.length < 4 ∨ 6 < s.length) : hexF s = (0, 40) := by unfold hexF; rw [if_pos (.inl h)]
theorem hexF_zero {s : List UInt8} {c : UInt8} (h : 4 < s.length) (hc : s[0]? = some c) (h0 : c.toNat = 48) : hexF s = (0, 40) := by
 have : c = 48 := UInt8.toNat_inj.1 h0
 unfold hexF; rw [if_pos (.inr ⟨h, by rw [List.getD_eq_getElem?_getD, hc, this]; rfl⟩)]
theorem hexF_bad {s : List UInt8} {i n : Nat} {c : UInt8} (hi : hexV (s.drop i) n = hexV s 0) (hc : s[i]? = some c) (hd : digitV c.toNat < 0) : hexF s = (0, 40) := by
 rw [vK hc, hexV, if_pos hd] at hi
 unfold hexF
 split
 ·rfl
 ·rw [← hi]
theorem hexV_step {s : List UInt8} {i n : Nat} {c : UInt8} (hi : hexV (s.drop i) n = hexV s 0) (hc : s[i]? = some c) (hd : 0 ≤ digitV c.toNat) : hexV (s.drop (i + 1)) (16 * n + (digitV c.toNat).toNat) = hexV s 0 := by
 rw [vK hc, hexV, if_neg (by omega)] at hi
 exact hi
theorem hexV_end {s : List UInt8} {i n : Nat} (hi : hexV (s.drop i) n = hexV s 0) (h : s.length ≤ i) : hexV s 0 = some n := by
 rw [List.drop_eq_nil_of_le h, hexV] at hi; exact hi.symm
theorem hexF_big {s : List UInt8} {n : Nat} (h : hexV s 0 = some n) (hn : 1114111 < n) : hexF s = (0, 40) := by
 unfold hexF
 split
 ·rfl
 ·rw [h]; simp only; rw [if_pos hn]
theorem hexF_ok {s : List UInt8} {n : Nat} (h : hexV s 0 = some n) (hn : n ≤ 1114111) (h1 : 4 ≤ s.length) (h2 : s.length ≤ 6) (h3 : s.length ≤ 4 ∨ ∃ c, s[0]? = some c ∧ c.toNat ≠ 48) : hexF s = ((n : Int), 0) := by
 unfold hexF
 rw [if_neg, h]
 ·simp only; rw [if_neg (by omega)]
 ·intro hx
  rcases hx with hx | ⟨hx, a⟩
  ·omega
  ·rcases h3 with h3 | ⟨c, hc, hne⟩
   ·omega
   ·rw [List.getD_eq_getElem?_getD, hc] at a
    apply hne
    have : c = 48 := a
    rw [this]; rfl
theorem pow16 {i n : Nat} (h : n < 16 ^ i) (hi : i ≤ 5) : n < 1048576 := by
 have := Nat.pow_le_pow_right (n := 16) (by omega) hi
 omega
theorem pow16s {i n b : Nat} (h : n < 16 ^ i) (hb : b < 16) : 16 * n + b < 16 ^ (i + 1) := by
 rw [Nat.pow_succ]; omega
theorem pow166 {i n : Nat} (h : n < 16 ^ i) (hi : i ≤ 6) : n < 16777216 := by
 have := Nat.pow_le_pow_right (n := 16) (by omega) hi
 omega
def mayF (lo hi : Int) : Bool := decide (0 ≤ lo ∧ lo ≤ hi ∧ hi ≤ 1114111)
end Go.FK
namespace Go.FK
open Go Go.RowKit
def digInv (b : Int) (i : Nat) : Prop := ∀ (j : Nat) (c : UInt8), j < i → ([48, 49, 50, 51, 52, 53, 54, 55, 56, 57, 65, 66, 67, 68, 69, 70] : List UInt8)[j]? = some c → (c.toNat : Int) ≠ b
def hexDig (n i : Nat) : UInt8 := hexTab.getD (n / 16 ^ i % 16) 0
def cntD (n : Nat) : Nat := if n < 65536 then 4 else if n < 1048576 then 5 else 6
def digsD (n l : Nat) : List UInt8 := ((List.range l).map (hexDig n)).reverse
def showF (r : Int) : List UInt8 × Int := if r < 0 ∨ 1114111 < r then ([], 40) else (digsD r.toNat (cntD r.toNat), 0)
theorem digsD_len (n l : Nat) : (digsD n l).length = l := by simp [digsD]
theorem cntD_le (n : Nat) : 4 ≤ cntD n ∧ cntD n ≤ 6 := by
 unfold cntD
 split
 ·omega
 ·split <;> omega
theorem cnt_lt {n l : Nat} (h : 0 < n / 16 ^ l) (hn : n ≤ 1114111) (hl : l ≤ cntD n) : l < cntD n := by
 rcases Nat.lt_or_ge l (cntD n) with a | a
 ·exact a
 ·exfalso
  obtain rfl : l = cntD n := by omega
  have : n / 16 ^ cntD n = 0 := by
   apply Nat.div_eq_of_lt
   unfold cntD
   split
   ·simpa using by assumption
   ·split
    ·simpa using by assumption
    ·simp; omega
  omega
theorem cnt_end {n l : Nat} (h : n / 16 ^ l = 0) (h4 : 4 ≤ l) (hl : l ≤ cntD n) : l = cntD n := by
 have hlt : n < 16 ^ l := by
  rcases Nat.lt_or_ge n (16 ^ l) with a | a
  ·exact a
  ·have := Nat.div_pos a (Nat.pow_pos (n := l) (show 0 < 16 by omega)); omega
 rcases Nat.lt_or_ge l (cntD n) with a | a
 ·exfalso
  unfold cntD at a
  split at a
  ·omega
  ·split at a
   ·obtain rfl : l = 4 := by omega
    simp at hlt; omega
   ·have e : l = 4 ∨ l = 5 := by omega
    rcases e with rfl | rfl <;> (simp at hlt; omega)
 ·omega
theorem digs_succ {n l : Nat} {c : UInt8} (hc : hexTab[n / 16 ^ l % 16]? = some c) : c :: digsD n l = digsD n (l + 1) := by
 unfold digsD
 rw [List.range_succ, List.map_append, List.reverse_append]
 have : hexDig n l = c := by unfold hexDig; rw [List.getD_eq_getElem?_getD, hc]; rfl
 simp [this]
theorem bytesI_u8 (c : UInt8) : bytesI [((c.toNat : Nat) : Int)] = [c] := by simp [bytesI]
end Go.FK
namespace Go.FK
def showSpanF (lo hi : Int) : List UInt8 × Int := if mayF lo hi = false then ([], 41) else if lo = hi then ((showF lo).1, 0) else ((showF lo).1 ++ [46, 46] ++ (showF hi).1, 0)
theorem vO {r : Int} (h : r < 0 ∨ 1114111 < r) : showF r = ([], 40) := by unfold showF; rw [if_pos h]
theorem showF_ok {r : Int} (h1 : 0 ≤ r) (h2 : r ≤ 1114111) : showF r = (digsD r.toNat (cntD r.toNat), 0) := by unfold showF; rw [if_neg (by omega)]
theorem showF_len (r : Int) : (showF r).1.length ≤ 6 := by
 unfold showF
 split
 ·simp
 ·simp only; rw [digsD_len]; exact (cntD_le _).2
def dotsN (s : List UInt8) : Nat → Nat → Option Nat
  | 0, _ => none
  | f + 1, i => if i + 1 < s.length then (if s.getD i 0 = 46 ∧ s.getD (i + 1) 0 = 46 then some i else dotsN s f (i + 1)) else none
def dotsFrom (s : List UInt8) (i : Nat) : Option Nat := dotsN s (s.length - i) i
def spanF (s : List UInt8) : Int × Int × Int :=
  match dotsFrom s 0 with
  | none => if (hexF s).2 ≠ 0 then (0, 0, (hexF s).2) else ((hexF s).1, (hexF s).1, 0)
  | some a => if (hexF (s.take a)).2 ≠ 0 ∨ (hexF (s.drop (a + 2))).2 ≠ 0 then (0, 0, 40) else if (hexF (s.drop (a + 2))).1 < (hexF (s.take a)).1 then (0, 0, 41) else ((hexF (s.take a)).1, (hexF (s.drop (a + 2))).1, 0)
def atInv (s : List UInt8) (i : Nat) (at_ : Int) : Prop := (at_ = -1 ∧ dotsFrom s i = dotsFrom s 0) ∨ (0 ≤ at_ ∧ at_.toNat + 1 < s.length ∧ dotsFrom s 0 = some at_.toNat)
end Go.FK
namespace Go.FK
open Go Go.RowKit
theorem vJ {r : Nat} {acc : List UInt8} {z : Int} {c : UInt8} (i2 : z = ((r / 16 ^ acc.length : Nat) : Int)) (i3 : acc = digsD r acc.length) (hc : ([48, 49, 50, 51, 52, 53, 54, 55, 56, 57, 65, 66, 67, 68, 69, 70] : List UInt8)[(z % 16).toNat]? = some c) :
  (bytesI [((c.toNat : Nat) : Int)] ++ acc).length = acc.length + 1 ∧ z / 16 = ((r / 16 ^ (bytesI [((c.toNat : Nat) : Int)] ++ acc).length : Nat) : Int) ∧ bytesI [((c.toNat : Nat) : Int)] ++ acc = digsD r (bytesI [((c.toNat : Nat) : Int)] ++ acc).length := by
 have hl : (bytesI [((c.toNat : Nat) : Int)] ++ acc).length = acc.length + 1 := by rw [bytesI_u8]; rfl
 refine ⟨hl, ?_, ?_⟩
 ·rw [hl, Nat.pow_succ, ← Nat.div_div_eq_div_mul]
  generalize r / 16 ^ acc.length = q at *; omega
 ·rw [hl, bytesI_u8]
  have h : hexTab[r / 16 ^ acc.length % 16]? = some c := by
   have e : r / 16 ^ acc.length % 16 = (z % 16).toNat := by generalize r / 16 ^ acc.length = q at *; omega
   rw [e]; exact hc
  rw [← digs_succ h, ← i3]; rfl
theorem show_end {r : Nat} {acc : List UInt8} {z : Int} (i1 : acc.length ≤ cntD r) (i2 : z = ((r / 16 ^ acc.length : Nat) : Int)) (i3 : acc = digsD r acc.length) (hz : z ≤ 0) (h4 : 4 ≤ acc.length) : acc = digsD r (cntD r) := by
 have hq : r / 16 ^ acc.length = 0 := by generalize r / 16 ^ acc.length = q at i2 ⊢; omega
 have he := cnt_end (n := r) (l := acc.length) hq h4 i1
 rw [← he]; exact i3
theorem show_facts {r : Nat} {acc : List UInt8} {z : Int} (i1 : acc.length ≤ cntD r) (i2 : z = ((r / 16 ^ acc.length : Nat) : Int)) (hr : r ≤ 1114111) : 0 ≤ z ∧ z ≤ 1114111 ∧ (0 < z → acc.length < cntD r) := by
 have hd := Nat.div_le_self r (16 ^ acc.length)
 refine ⟨?_, ?_, fun h => cnt_lt ?_ hr i1⟩ <;> (generalize r / 16 ^ acc.length = q at *; omega)
end Go.FK
namespace Go.FK
open Go Go.RowKit
def lowB (l : List UInt8) : List Int := l.reverse.map fun c => (c.toNat : Int)
theorem lowB_back (l : List UInt8) : bytesI (List.reverse (lowB l)) = l := by
 unfold lowB bytesI
 rw [← List.map_reverse, List.reverse_reverse, List.map_map]
 have : ((fun n : Int => UInt8.ofNat n.toNat) ∘ fun c : UInt8 => (c.toNat : Int)) = id := by
  funext c; simp
 rw [this, List.map_id]
theorem show_stepR {r : Nat} {acc : List Int} {z : Int} {c : UInt8} (i2 : z = ((r / 16 ^ acc.length : Nat) : Int)) (i3 : acc = lowB (digsD r acc.length)) (hc : ([48, 49, 50, 51, 52, 53, 54, 55, 56, 57, 65, 66, 67, 68, 69, 70] : List UInt8)[z.toNat % 16]? = some c) :
  z / 16 = ((r / 16 ^ (acc ++ [((c.toNat : Nat) : Int)]).length : Nat) : Int) ∧ acc ++ [((c.toNat : Nat) : Int)] = lowB (digsD r (acc ++ [((c.toNat : Nat) : Int)]).length) := by
 have hl : (acc ++ [((c.toNat : Nat) : Int)]).length = acc.length + 1 := by simp
 rw [hl]
 refine ⟨?_, ?_⟩
 ·rw [Nat.pow_succ, ← Nat.div_div_eq_div_mul]
  generalize r / 16 ^ acc.length = q at *; omega
 ·have h : hexTab[r / 16 ^ acc.length % 16]? = some c := by
   have e : r / 16 ^ acc.length % 16 = z.toNat % 16 := by generalize r / 16 ^ acc.length = q at *; omega
   rw [e]; exact hc
  rw [← digs_succ h]
  unfold lowB
  rw [List.reverse_cons, List.map_append]
  congr 1
theorem show_factsR {r : Nat} {acc : List Int} {z : Int} (i1 : acc.length ≤ cntD r) (i2 : z = ((r / 16 ^ acc.length : Nat) : Int)) (hr : r ≤ 1114111) : 0 ≤ z ∧ z ≤ 1114111 ∧ (0 < z → acc.length < cntD r) := by
 have hd := Nat.div_le_self r (16 ^ acc.length)
 refine ⟨?_, ?_, fun h => cnt_lt ?_ hr i1⟩ <;> (generalize r / 16 ^ acc.length = q at *; omega)
theorem show_endR {r : Nat} {acc : List Int} {z : Int} (i1 : acc.length ≤ cntD r) (i2 : z = ((r / 16 ^ acc.length : Nat) : Int)) (i3 : acc = lowB (digsD r acc.length)) (hz : z ≤ 0) (h4 : 4 ≤ acc.length) : bytesI (List.reverse acc) = digsD r (cntD r) := by
 have hq : r / 16 ^ acc.length = 0 := by generalize r / 16 ^ acc.length = q at i2 ⊢; omega
 have he := cnt_end (n := r) (l := acc.length) hq h4 i1
 rw [i3, lowB_back, he]
end Go.FK
namespace Go.FK
open Go Go.RowKit
end Go.FK
end

/- === PWordM === -/
section
/- PWords: the plain functions of chapter 05 (words): no program in sight. -/
namespace Go.FK
open Go
def blankB (r : Int) : Bool := r == 9 || r == 11 || r == 12 || r == 32 || r == 133 || r == 160 || r == 5760 || r == 8232 || r == 8233 || r == 8239 || r == 8287 || r == 12288 || (decide (8192 ≤ r) && decide (r ≤ 8202))
def runesN (s : List UInt8) : Nat → Nat → List Int
  | 0, _ => []
  | n + 1, pos => if pos < s.length then ((dec s pos).1 : Int) :: runesN s n (pos + (dec s pos).2) else []
theorem runesN_end {s : List UInt8} : ∀ {n pos : Nat}, s.length ≤ pos → runesN s n pos = []
 | 0, _, _ => rfl
 | n + 1, pos, h => by rw [runesN, if_neg (by omega)]
theorem runesN_fuel {s : List UInt8} : ∀ (n m pos : Nat), s.length - pos ≤ n → s.length - pos ≤ m → runesN s n pos = runesN s m pos := by
 intro n
 induction n with
 | zero => intro m pos h _; rw [runesN_end (by omega), runesN_end (by omega)]
 | succ n ih =>
  intro m pos hn hm
  by_cases h : pos < s.length
  ·cases m with
   | zero => omega
   | succ m =>
    have := dec_pos s pos
    rw [runesN, runesN, if_pos h, if_pos h, ih m _ (by omega) (by omega)]
  ·rw [runesN_end (by omega), runesN_end (by omega)]
def runesFrom (s : List UInt8) (pos : Nat) : List Int := runesN s (s.length - pos) pos
theorem qB {s : List UInt8} {pos : Nat} (h : pos < s.length) : runesFrom s pos = ((dec s pos).1 : Int) :: runesFrom s (pos + (dec s pos).2) := by
 have := dec_pos s pos
 unfold runesFrom
 rw [runesN_fuel (s.length - pos) (s.length - pos + 1) pos (by omega) (by omega), runesN, if_pos h]
 rw [runesN_fuel (s.length - pos) (s.length - (pos + (dec s pos).2)) _ (by omega) (by omega)]
theorem runesFrom_end {s : List UInt8} {pos : Nat} (h : s.length ≤ pos) : runesFrom s pos = [] := runesN_end h
def wordsN (s : List UInt8) : Nat → Nat → Int → List (Int × List UInt8)
  | 0, _, fr => if 0 ≤ fr then [(fr, s.drop fr.toNat)] else []
  | n + 1, pos, fr =>
    if pos < s.length then
      if blankB (dec s pos).1 = true then
        if 0 ≤ fr then (fr, (s.take pos).drop fr.toNat) :: wordsN s n (pos + (dec s pos).2) (-1) else wordsN s n (pos + (dec s pos).2) fr
      else if fr < 0 then wordsN s n (pos + (dec s pos).2) pos else wordsN s n (pos + (dec s pos).2) fr
    else if 0 ≤ fr then [(fr, s.drop fr.toNat)] else []
def wordsFrom (s : List UInt8) (pos : Nat) (fr : Int) : List (Int × List UInt8) := wordsN s (s.length - pos) pos fr
def wordsOf (s : List UInt8) : List (Int × List UInt8) := wordsFrom s 0 (-1)
def longN (b : Int) : Nat := if b < 128 then 1 else if b < 192 ∨ 247 < b then 0 else if b < 224 then 2 else if b < 240 then 3 else 4
def scalarB (r : Int) : Bool := decide (0 ≤ r) && decide (r ≤ 1114111) && (decide (r < 55296) || decide (57343 < r))
def widthN (r : Int) : Nat := if scalarB r = true then if r < 128 then 1 else if r < 2048 then 2 else if r < 65536 then 3 else 4 else 0
def bitsT : List Nat := [0, 127, 31, 15, 7]
def leastT : List Nat := [0, 0, 128, 2048, 65536]
def atN (s : List UInt8) (p : Nat) : Nat → Nat → Nat → Nat × Nat
  | 0, _, x => (0, x)
  | f + 1, i, x => match s[p + i]? with
    | none => (11, 0)
    | some b => if b.toNat < 128 ∨ 191 < b.toNat then (12, 0) else atN s p f (i + 1) (x * 64 + b.toNat - 128)
def finF (n : Nat) (r : Nat × Nat) : Nat × Int × Int :=
  if r.1 ≠ 0 then (1, 65533, r.1) else if r.2 < leastT.getD n 0 then (1, 65533, 13) else if 55296 ≤ r.2 ∧ r.2 ≤ 57343 then (1, 65533, 14) else if 1114111 < r.2 then (1, 65533, 15) else (n, r.2, 0)
def atG (s : List UInt8) (p n i x : Nat) : Nat × Int × Int := finF n (atN s p (n - i) i x)
def atF (s : List UInt8) (p : Nat) : Nat × Int × Int :=
  let c := (s.getD p 0).toNat
  if longN c = 0 then (1, 65533, 10) else atG s p (longN c) 1 (c &&& bitsT.getD (longN c) 0)
def atH (s : List UInt8) (p i x : Nat) : Nat × Int × Int := atG s p (longN (((s.getD p 0).toNat : Nat) : Int)) i x
def encSpot (x : Nat × Nat × Int × Int) : List Value := [.int .i64 (x.1 : Int), .int .i64 (x.2.1 : Int), .int .i32 x.2.2.1, .int .i64 x.2.2.2]
def spotsN (s : List UInt8) : Nat → Nat → List (Nat × Nat × Int × Int)
  | 0, _ => []
  | f + 1, p => if p < s.length then (p, (atF s p).1, (atF s p).2.1, (atF s p).2.2) :: spotsN s f (p + (atF s p).1) else []
def spotsFrom (s : List UInt8) (p : Nat) : List (Nat × Nat × Int × Int) := spotsN s (s.length - p) p
def rrunes (s : List UInt8) : List Int := (spotsFrom s 0).map fun x => x.2.2.1
def dropW (r : Int) : Bool := blankB r || r == 95 || r == 45
def lowerI (r : Int) : Int := if 65 ≤ r ∧ r ≤ 90 then r + 32 else r
def looseL (l : List Int) : List Int := (l.filter (fun r => !dropW r)).map lowerI
theorem vN (r : Int) (l : List Int) : looseL (r :: l) = if dropW r then looseL l else lowerI r :: looseL l := by
 cases h : dropW r <;> simp [looseL, h]
def looseS (s : List UInt8) : List UInt8 := encL (looseL (runesFrom s 0))
def alikeB (a b : List UInt8) : Bool := decide (looseS a = looseS b)
def shortTab : List (List UInt8) := [[], [76], [82], [65, 76], [69, 78], [69, 83], [69, 84], [65, 78], [67, 83], [78, 83, 77], [66, 78], [66], [83], [87, 83], [79, 78], [76, 82, 69], [76, 82, 79], [82, 76, 69], [82, 76, 79], [80, 68, 70], [76, 82, 73], [82, 76, 73], [70, 83, 73], [80, 68, 73]]
def longTab : List (List UInt8) := [[], [76, 101, 102, 116, 95, 84, 111, 95, 82, 105, 103, 104, 116], [82, 105, 103, 104, 116, 95, 84, 111, 95, 76, 101, 102, 116], [65, 114, 97, 98, 105, 99, 95, 76, 101, 116, 116, 101, 114], [69, 117, 114, 111, 112, 101, 97, 110, 95, 78, 117, 109, 98, 101, 114], [69, 117, 114, 111, 112, 101, 97, 110, 95, 83, 101, 112, 97, 114, 97, 116, 111, 114], [69, 117, 114, 111, 112, 101, 97, 110, 95, 84, 101, 114, 109, 105, 110, 97, 116, 111, 114], [65, 114, 97, 98, 105, 99, 95, 78, 117, 109, 98, 101, 114], [67, 111, 109, 109, 111, 110, 95, 83, 101, 112, 97, 114, 97, 116, 111, 114], [78, 111, 110, 115, 112, 97, 99, 105, 110, 103, 95, 77, 97, 114, 107], [66, 111, 117, 110, 100, 97, 114, 121, 95, 78, 101, 117, 116, 114, 97, 108], [80, 97, 114, 97, 103, 114, 97, 112, 104, 95, 83, 101, 112, 97, 114, 97, 116, 111, 114], [83, 101, 103, 109, 101, 110, 116, 95, 83, 101, 112, 97, 114, 97, 116, 111, 114], [87, 104, 105, 116, 101, 95, 83, 112, 97, 99, 101], [79, 116, 104, 101, 114, 95, 78, 101, 117, 116, 114, 97, 108], [76, 101, 102, 116, 95, 84, 111, 95, 82, 105, 103, 104, 116, 95, 69, 109, 98, 101, 100, 100, 105, 110, 103], [76, 101, 102, 116, 95, 84, 111, 95, 82, 105, 103, 104, 116, 95, 79, 118, 101, 114, 114, 105, 100, 101], [82, 105, 103, 104, 116, 95, 84, 111, 95, 76, 101, 102, 116, 95, 69, 109, 98, 101, 100, 100, 105, 110, 103], [82, 105, 103, 104, 116, 95, 84, 111, 95, 76, 101, 102, 116, 95, 79, 118, 101, 114, 114, 105, 100, 101], [80, 111, 112, 95, 68, 105, 114, 101, 99, 116, 105, 111, 110, 97, 108, 95, 70, 111, 114, 109, 97, 116], [76, 101, 102, 116, 95, 84, 111, 95, 82, 105, 103, 104, 116, 95, 73, 115, 111, 108, 97, 116, 101], [82, 105, 103, 104, 116, 95, 84, 111, 95, 76, 101, 102, 116, 95, 73, 115, 111, 108, 97, 116, 101], [70, 105, 114, 115, 116, 95, 83, 116, 114, 111, 110, 103, 95, 73, 115, 111, 108, 97, 116, 101], [80, 111, 112, 95, 68, 105, 114, 101, 99, 116, 105, 111, 110, 97, 108, 95, 73, 115, 111, 108, 97, 116, 101]]
def shortS (c : Int) : List UInt8 := if 1 ≤ c ∧ c ≤ 23 then shortTab.getD c.toNat [] else []
def longS (c : Int) : List UInt8 := if 1 ≤ c ∧ c ≤ 23 then longTab.getD c.toNat [] else []
def shortF (c : Int) : List UInt8 := if 15 ≤ c then shortS c else []
def longF (c : Int) : List UInt8 := if 15 ≤ c then longS c else []
def toldE (c : Int) : Int := if 1 ≤ c ∧ c ≤ 23 then 0 else 2
def classN (name : List UInt8) : Nat → Int → Int × Int
  | 0, _ => (0, 50)
  | n + 1, c => if c ≤ 23 then if alikeB name (shortS c) = true then (c, 0) else if alikeB name (longS c) = true then (c, 0) else classN name n (c + 1) else (0, 50)
def classFrom (name : List UInt8) (c : Int) : Int × Int := classN name (24 - c).toNat c
def classF (name : List UInt8) : Int × Int := classFrom name 1
def cstep (st : List Int × Int × Int) (x : Int × List UInt8) : List Int × Int × Int :=
  if st.2.2 ≠ 0 then st else if (classF x.2).2 ≠ 0 then ([], x.1, (classF x.2).2) else (st.1 ++ [(classF x.2).1], 0, 0)
def classesF (s : List UInt8) : List Int × Int × Int := (wordsOf s).foldl cstep ([], 0, 0)
def letterS (c : Int) : List UInt8 := if c = 0 then [110] else if c = 1 then [111] else if c = 2 then [99] else []
def letterE (c : Int) : Int := if c = 0 ∨ c = 1 ∨ c = 2 then 0 else 2
theorem letterS_none {c : Int} (h : 2 < c) : letterS c = [] := by unfold letterS; rw [if_neg (by omega), if_neg (by omega), if_neg (by omega)]
theorem letterS_tab {c : Int} {x : UInt8} (h : 0 ≤ c) (h2 : c ≤ 2) (hx : ([110, 111, 99] : List UInt8)[c.toNat]? = some x) : bytesI [((x.toNat : Nat) : Int)] = letterS c := by
 have e : c = 0 ∨ c = 1 ∨ c = 2 := by omega
 rcases e with rfl | rfl | rfl <;> (cases hx; rfl)
def sideTab : List (List UInt8) := [[78, 111, 110, 101], [79, 112, 101, 110], [67, 108, 111, 115, 101]]
def sideN (name : List UInt8) : List (List UInt8) → Int → Int × Int
  | [], _ => (0, 51)
  | x :: l, c => if alikeB name (letterS c) = true then (c, 0) else if alikeB name x = true then (c, 0) else sideN name l (c + 1)
def sideFrom (name : List UInt8) (k : Nat) : Int × Int := sideN name (sideTab.drop k) k
theorem vA {name x : List UInt8} {k : Nat} (h : sideTab[k]? = some x) : sideFrom name k = if alikeB name (letterS k) = true then ((k : Int), 0) else if alikeB name x = true then ((k : Int), 0) else sideFrom name (k + 1) := by
 unfold sideFrom
 rw [vK h, sideN]; rfl
theorem sideFrom_end {name : List UInt8} {k : Nat} (h : 3 ≤ k) : sideFrom name k = (0, 51) := by
 unfold sideFrom
 rw [List.drop_eq_nil_of_le (by simpa [sideTab] using h)]; rfl
theorem sideTab_len {k : Nat} {x : List UInt8} (h : sideTab[k]? = some x) : x.length ≤ 30 := by
 have : ∀ y ∈ sideTab, y.length ≤ 30 := by decide
 exact this x (List.mem_of_getElem? h)
theorem letterS_len (c : Int) : (letterS c).length ≤ 30 := by
 unfold letterS; repeat' split
 all_goals simp
def sideF (name : List UInt8) : Int × Int := sideFrom name 0
end Go.FK
end

/- === PBr3 === -/
section
/- PBr3: chapter 8: a book's rows by rising numbers; what a book writes; what a text is read as. My own text. -/
namespace Go.FK
def insI (x : Int) : List Int → List Int
  | [] => [x]
  | y :: l => if x ≤ y then x :: y :: l else y :: insI x l
def srtI : List Int → List Int
  | [] => []
  | x :: l => insI x (srtI l)
theorem insI_perm (x : Int) : ∀ l : List Int, (insI x l).Perm (x :: l)
 | [] => List.Perm.refl _
 | y :: l => by
  rw [insI]
  split
  ·exact List.Perm.refl _
  ·exact ((insI_perm x l).cons y).trans (List.Perm.swap ..)
theorem srtI_perm : ∀ l : List Int, (srtI l).Perm l
 | [] => List.Perm.refl _
 | x :: l => (insI_perm x _).trans ((srtI_perm l).cons x)
theorem insI_pw (x : Int) : ∀ l : List Int, l.Pairwise (· ≤ ·) → (insI x l).Pairwise (· ≤ ·)
 | [], _ => List.pairwise_singleton ..
 | y :: l, h => by
  have a := List.pairwise_cons.1 h
  rw [insI]
  split
  ·rename_i hxy
   refine List.pairwise_cons.2 ⟨fun z hz => ?_, h⟩
   rcases List.mem_cons.1 hz with rfl | hz
   ·exact hxy
   ·exact Int.le_trans hxy (a.1 z hz)
  ·rename_i hxy
   refine List.pairwise_cons.2 ⟨fun z hz => ?_, insI_pw x l a.2⟩
   rcases List.mem_cons.1 ((insI_perm x l).mem_iff.1 hz) with rfl | hz
   ·omega
   ·exact a.1 z hz
theorem srtI_pw : ∀ l : List Int, (srtI l).Pairwise (· ≤ ·)
 | [] => List.Pairwise.nil
 | x :: l => insI_pw x _ (srtI_pw l)
theorem pw_unique : ∀ {l1 l2 : List Int}, l1.Perm l2 → l1.Pairwise (· ≤ ·) → l2.Pairwise (· ≤ ·) → l1 = l2
 | [], l2, h, _, _ => h.nil_eq
 | x :: l1, [], h, _, _ => absurd h.length_eq (by simp)
 | x :: l1, y :: l2, h, h1, h2 => by
  have b := List.pairwise_cons.1 h1
  have a := List.pairwise_cons.1 h2
  have e : x = y := by
   rcases List.mem_cons.1 (h.mem_iff.1 (List.mem_cons_self ..)) with e | hx
   ·exact e
   ·rcases List.mem_cons.1 (h.mem_iff.2 (List.mem_cons_self ..)) with e | hy
    ·exact e.symm
    ·exact Int.le_antisymm (b.1 y hy) (a.1 x hx)
  subst e
  rw [pw_unique ((List.perm_cons x).1 h) b.2 a.2]
theorem Srt.pw {l : List Int} {n : Nat} (h : Srt l 0 n) (hn : n = l.length) : l.Pairwise (· ≤ ·) := by
 subst hn
 rw [List.pairwise_iff_getElem]
 intro i j hi hj hij
 have := h i j (Nat.zero_le _) hij hj
 rw [el_some (List.getElem?_eq_getElem hi), el_some (List.getElem?_eq_getElem hj)] at this
 exact this
def keysB (m : List (Int × Brk)) : List Int := srtI (m.map (·.1))
def rowsB (m : List (Int × Brk)) : List Brk := (keysB m).map (lookB m)
theorem keysB_len (m : List (Int × Brk)) : (keysB m).length = m.length := by rw [keysB, (srtI_perm _).length_eq, List.length_map]
theorem vM (m : List (Int × Brk)) : (rowsB m).length = m.length := by rw [rowsB, List.length_map, keysB_len]
theorem keys_sorted {xs ys : List Int} {m : List (Int × Brk)} {n : Nat} (hp : xs.Perm (m.map (·.1))) (hw : Sw 0 n xs ys) (hs : Srt ys 0 n) (hn : n = xs.length) : ys = keysB m :=
 pw_unique (hw.perm.trans (hp.trans (srtI_perm _).symm)) (hs.pw (by rw [hw.len]; exact hn)) (srtI_pw _)
theorem rows_take {m : List (Int × Brk)} {i : Nat} {r : Int} (h : (keysB m)[i]? = some r) : ((rowsB m).take i) ++ [lookB m r] = (rowsB m).take (i + 1) := by
 rw [List.take_add_one, rowsB, List.getElem?_map, h]; rfl
theorem rows_pre {m : List (Int × Brk)} {i : Nat} {r : Int} (h : (keysB m)[i]? = some r) : ((rowsB m).take i) ++ [lookB m r] <+: rowsB m := by
 rw [rows_take h]; exact List.take_prefix _ _
def lineB (x : Brk) : List UInt8 := (showF x.1).1 ++ [59, 32] ++ (showF x.2.1).1 ++ [59, 32] ++ letterS x.2.2 ++ [10]
def writeB (m : List (Int × Brk)) : List UInt8 := (rowsB m).flatMap lineB
theorem lineB_len (x : Brk) : (lineB x).length ≤ 47 := by
 have a := showF_len x.1
 have b := showF_len x.2.1
 have c := letterS_len x.2.2
 unfold lineB
 simp only [List.length_append, List.length_cons, List.length_nil]
 omega
theorem flatB_len : ∀ l : List Brk, (l.flatMap lineB).length ≤ 47 * l.length
 | [] => Nat.le_refl _
 | x :: l => by
  have a := lineB_len x
  have b := flatB_len l
  rw [List.flatMap_cons, List.length_append, List.length_cons]
  omega
theorem vH (m : List (Int × Brk)) : (writeB m).length ≤ 47 * m.length := by
 have := flatB_len (rowsB m)
 rwa [vM] at this
theorem wrB_len {acc : List UInt8} {pre : List Brk} {x : Brk} {m : List (Int × Brk)} (h : acc = pre.flatMap lineB) (hp : pre ++ [x] <+: rowsB m) : acc.length + 47 ≤ 47 * m.length := by
 have a := hp.length_le
 rw [List.length_append, List.length_singleton, vM] at a
 have b := flatB_len pre
 rw [h]; omega
theorem wrB_step {acc : List UInt8} {pre : List Brk} {x : Brk} (h : acc = pre.flatMap lineB) : acc ++ ((showF x.1).1 ++ [59, 32] ++ (showF x.2.1).1 ++ [59, 32] ++ letterS x.2.2 ++ [10]) = (pre ++ [x]).flatMap lineB := by
 rw [List.flatMap_append, ← h, List.flatMap_singleton]; rfl
end Go.FK
end

/- === PScn === -/
section
/- PScn: the fields of a line are no longer than the line. My own text. -/
namespace Go.FK
open Go Go.RowKit
theorem splF_el (b : UInt8) : ∀ (s : List UInt8), ∀ x ∈ splF b s, x.length ≤ s.length
 | [], x, h => by rw [splF] at h; rw [List.mem_singleton.1 h]; exact Nat.le_refl _
 | c :: l, x, h => by
  rw [splF] at h
  rw [List.length_cons]
  split at h
  ·rcases List.mem_cons.1 h with rfl | h
   ·exact Nat.zero_le _
   ·have := splF_el b l x h; omega
  ·obtain ⟨p, r, e⟩ := splF_ne b l
   have ih := splF_el b l
   rw [e] at h ih
   rcases List.mem_cons.1 h with rfl | h
   ·have := ih p List.mem_cons_self
    rw [List.length_cons]; omega
   ·have := ih x (List.mem_cons_of_mem _ h); omega
theorem fields_el {s x : List UInt8} (h : x ∈ fieldsF s) : x.length ≤ s.length := by
 unfold fieldsF at h
 split at h
 ·cases h
 ·obtain ⟨y, hy, rfl⟩ := List.mem_map.1 h
  exact Nat.le_trans (trm_len _) (splF_el 59 s y hy)
theorem cut_el {s x : List UInt8} (h : x ∈ (cutF s).1) : x.length ≤ s.length := Nat.le_trans (fields_el (show x ∈ fieldsF (Lib.cut s [35]).1 from h)) (qI s [35]).1
theorem ord_len (s : List UInt8) : (ordF s).2.1.length ≤ s.length := by
 have a := (qI ((headF s).drop 1) [58]).2
 have b := headF_len s
 rw [List.length_drop] at a
 unfold ordF; omega
theorem scan_parts {no : Int} {s : List UInt8} (n : Nat) (hs : s.length ≤ n) : (∀ x ∈ (scanF no s).1.2.2.2.1, x.length ≤ n) ∧ (scanF no s).1.2.2.2.2.length ≤ n := by
 have b : (noteF s).length ≤ n := Nat.le_trans (noteF_len s) hs
 have e : ((noteF s).drop 9).length ≤ n := by rw [List.length_drop]; omega
 have z : (∀ x ∈ zeroL.2.2.2.1, x.length ≤ n) ∧ zeroL.2.2.2.2.length ≤ n := ⟨fun x hx => (by cases hx), Nat.zero_le _⟩
 unfold scanF
 by_cases c : (chkF s).2 ≠ 0
 ·rw [if_pos c]; exact z
 ·rw [if_neg c]
  by_cases f : headF s = []
  ·rw [if_pos f]
   by_cases a : hpB (noteF s) missT = true
   ·rw [if_pos a]; exact ⟨fun x hx => Nat.le_trans (cut_el hx) e, Nat.le_trans (cutF_len _) e⟩
   ·rw [if_neg a]; exact ⟨fun x hx => (by cases hx), b⟩
  ·rw [if_neg f]
   by_cases a : hpB (headF s) [64] = true
   ·rw [if_pos a]
    by_cases d : (ordF s).2.2 = false ∨ nameF (ordF s).1 = false
    ·rw [if_pos d]; exact z
    ·rw [if_neg d]; exact ⟨fun x hx => Nat.le_trans (fields_el hx) (Nat.le_trans (ord_len s) hs), b⟩
   ·rw [if_neg a]; exact ⟨fun x hx => Nat.le_trans (cut_el hx) hs, b⟩
end Go.FK
end

/- === PBr4 === -/
section
/- PBr4: chapter 8: what a fault says (numbers below 100); what a text is read as. My own text. -/
namespace Go.FK
open Go Go.RowKit
def dg2 (n : Int) : List UInt8 := if n < 10 then [UInt8.ofNat (48 + n.toNat)] else [UInt8.ofNat (48 + n.toNat / 10), UInt8.ofNat (48 + n.toNat % 10)]
theorem dg2_len (n : Int) : (dg2 n).length ≤ 2 := by unfold dg2; split <;> simp
theorem itoa2 {P : Program} {f : FuncId} (h : ∀ (i : Nat) (hi : i < 100) (w : World), Calls P f #[.int .i64 i] w fun e w' => e = .returned (.string ⟨(Lib.decDigits i).toArray⟩) ∧ w' = w)
  (n : Int) (w : World) (h0 : 0 ≤ n ∧ n < 100) : Calls P f #[.int .i64 n] w (Ret fun v w' => v = S (dg2 n) ∧ Below w.heap.size w w') := by
 obtain ⟨k, rfl⟩ := Int.eq_ofNat_of_zero_le h0.1
 refine (h k (by omega) w).mono ?_
 rintro e w' ⟨rfl, rfl⟩
 refine ⟨_, rfl, ?_, Below.refl _ _⟩
 have e : Lib.decDigits k = dg2 (k : Int) := by
  unfold dg2
  by_cases hk : k < 10
  ·rw [Lib.decDigits_one hk, if_pos (by omega)]; rfl
  ·rw [Lib.decDigits_two hk (by omega), if_neg (by omega)]; rfl
 rw [e]; rfl
def errD (e : Int) : List UInt8 := ([101, 114, 114, 111, 114, 32] : List UInt8) ++ dg2 e
def fltD (f : List UInt8) (l e : Int) : List UInt8 :=
  if f = [] then ((([108, 105, 110, 101, 32] : List UInt8) ++ dg2 l) ++ ([58, 32] : List UInt8)) ++ errD e
  else (((f ++ ([58] : List UInt8)) ++ dg2 l) ++ ([58, 32] : List UInt8)) ++ errD e
theorem errD_len (e : Int) : (errD e).length ≤ 8 := by
 have := dg2_len e
 unfold errD; rw [List.length_append]; simp only [List.length_cons, List.length_nil]; omega
def encTw (x : Int × Int) : List Value := [.int .i32 x.1, .int .i32 x.2]
def readB (k : Int) (f : List (List UInt8)) : Brk × Bool × Int :=
  if k = 2 then ((0, 0, 0), false, 80)
  else if k = 1 then
    if f.length ≠ 3 then ((0, 0, 0), false, 80)
    else if (hexF (f.getD 0 [])).2 ≠ 0 then ((0, 0, 0), false, (hexF (f.getD 0 [])).2)
    else if (hexF (f.getD 1 [])).2 ≠ 0 then ((0, 0, 0), false, (hexF (f.getD 1 [])).2)
    else if (sideF (f.getD 2 [])).2 ≠ 0 then ((0, 0, 0), false, (sideF (f.getD 2 [])).2)
    else (((hexF (f.getD 0 [])).1, (hexF (f.getD 1 [])).1, (sideF (f.getD 2 [])).1), true, 0)
  else ((0, 0, 0), false, 0)
section
variable {k : Int} {f : List (List UInt8)} {a b c : List UInt8}
theorem gd_some {i : Nat} (h : f[i]? = some a) : f.getD i [] = a := by rw [List.getD_eq_getElem?_getD, h]; rfl
theorem rd_order (h : k = 2) : readB k f = ((0, 0, 0), false, 80) := if_pos h
theorem rd_few (h : k = 1) (hl : f.length ≠ 3) : readB k f = ((0, 0, 0), false, 80) := by unfold readB; rw [if_neg (by omega), if_pos h, if_pos hl]
theorem rd_none (h : k ≠ 2) (h1 : k ≠ 1) : readB k f = ((0, 0, 0), false, 0) := by unfold readB; rw [if_neg h, if_neg h1]
theorem rd_a (h : k = 1) (hl : f.length = 3) (ha : f[0]? = some a) (h1 : (hexF a).2 ≠ 0) : readB k f = ((0, 0, 0), false, (hexF a).2) := by
 unfold readB; rw [if_neg (by omega), if_pos h, if_neg (by omega), gd_some ha, if_pos h1]
theorem rd_b (h : k = 1) (hl : f.length = 3) (ha : f[0]? = some a) (h1 : (hexF a).2 = 0) (hb : f[1]? = some b) (h2 : (hexF b).2 ≠ 0) : readB k f = ((0, 0, 0), false, (hexF b).2) := by
 unfold readB; rw [if_neg (by omega), if_pos h, if_neg (by omega), gd_some ha, if_neg (by omega), gd_some hb, if_pos h2]
theorem rd_s (h : k = 1) (hl : f.length = 3) (ha : f[0]? = some a) (h1 : (hexF a).2 = 0) (hb : f[1]? = some b) (h2 : (hexF b).2 = 0) (hc : f[2]? = some c) (h3 : (sideF c).2 ≠ 0) : readB k f = ((0, 0, 0), false, (sideF c).2) := by
 unfold readB; rw [if_neg (by omega), if_pos h, if_neg (by omega), gd_some ha, if_neg (by omega), gd_some hb, if_neg (by omega), gd_some hc, if_pos h3]
theorem rd_ok (h : k = 1) (hl : f.length = 3) (ha : f[0]? = some a) (h1 : (hexF a).2 = 0) (hb : f[1]? = some b) (h2 : (hexF b).2 = 0) (hc : f[2]? = some c) (h3 : (sideF c).2 = 0) : readB k f = (((hexF a).1, (hexF b).1, (sideF c).1), true, 0) := by
 unfold readB; rw [if_neg (by omega), if_pos h, if_neg (by omega), gd_some ha, if_neg (by omega), gd_some hb, if_neg (by omega), gd_some hc, if_neg (by omega)]
end
abbrev lnB (x : Int × List UInt8) : Brk × Bool × Int := readB (scanF x.1 x.2).1.2.1 (scanF x.1 x.2).1.2.2.2.1
def parB : List (Int × List UInt8) → List Brk → List Int → (List Brk × List Int) × Int × Int
  | [], rows, ats => ((rows, ats), 0, 0)
  | x :: l, rows, ats =>
    if (scanF x.1 x.2).2 ≠ 0 then ((rows, ats), x.1, (scanF x.1 x.2).2)
    else if (lnB x).2.2 ≠ 0 then ((rows, ats), x.1, (lnB x).2.2)
    else if (lnB x).2.1 = false then parB l rows ats
    else if addE (kv rows) (lnB x).1 ≠ 0 then ((rows, ats), x.1, addE (kv rows) (lnB x).1)
    else parB l (rows ++ [(lnB x).1]) (ats ++ [x.1])
def parF (s : List UInt8) : (List Brk × List Int) × Int × Int :=
  if (parB (toldF s) [] []).2.2 ≠ 0 then parB (toldF s) [] []
  else match loneI (kv (parB (toldF s) [] []).1.1) (parB (toldF s) [] []).1.1 0 with
    | some i => ((parB (toldF s) [] []).1, (parB (toldF s) [] []).1.2.getD i 0, 82)
    | none => parB (toldF s) [] []
def ParI (pre : List (Int × List UInt8)) (rows : List Brk) (ats : List Int) : Prop := ∀ r, parB (pre ++ r) [] [] = parB r rows ats
section
variable {pre t : List (Int × List UInt8)} {rows : List Brk} {ats : List Int} {x : Int × List UInt8} {s : List UInt8}
theorem ParI.nil : ParI [] [] [] := fun r => rfl
theorem ParI.skip (h : ParI pre rows ats) (h1 : (scanF x.1 x.2).2 = 0) (h2 : (lnB x).2.2 = 0) (h3 : (lnB x).2.1 = false) : ParI (pre ++ [x]) rows ats := fun r => by
 rw [List.append_assoc, h]; show parB (x :: r) rows ats = _
 rw [parB, if_neg (by omega), if_neg (by omega), if_pos h3]
theorem ParI.add (h : ParI pre rows ats) (h1 : (scanF x.1 x.2).2 = 0) (h2 : (lnB x).2.2 = 0) (h3 : (lnB x).2.1 = true) (h4 : addE (kv rows) (lnB x).1 = 0) : ParI (pre ++ [x]) (rows ++ [(lnB x).1]) (ats ++ [x.1]) := fun r => by
 rw [List.append_assoc, h]; show parB (x :: r) rows ats = _
 rw [parB, if_neg (by omega), if_neg (by omega), if_neg (by rw [h3]; decide), if_neg (by omega)]
theorem par_at (h : ParI pre rows ats) (hp : pre ++ [x] <+: toldF s) : ∃ l, parB (toldF s) [] [] = parB (x :: l) rows ats := by
 obtain ⟨l, hl⟩ := hp
 exact ⟨l, by rw [← hl, List.append_assoc, h]; rfl⟩
theorem par_scan (h : ParI pre rows ats) (hp : pre ++ [x] <+: toldF s) (h1 : (scanF x.1 x.2).2 ≠ 0) : (parF s).2 = (x.1, (scanF x.1 x.2).2) := by
 obtain ⟨l, hl⟩ := par_at h hp
 have e : parB (toldF s) [] [] = ((rows, ats), x.1, (scanF x.1 x.2).2) := by rw [hl, parB, if_pos h1]
 unfold parF; rw [e, if_pos h1]
theorem par_read (h : ParI pre rows ats) (hp : pre ++ [x] <+: toldF s) (h1 : (scanF x.1 x.2).2 = 0) (h2 : (lnB x).2.2 ≠ 0) : (parF s).2 = (x.1, (lnB x).2.2) := by
 obtain ⟨l, hl⟩ := par_at h hp
 have e : parB (toldF s) [] [] = ((rows, ats), x.1, (lnB x).2.2) := by rw [hl, parB, if_neg (by omega), if_pos h2]
 unfold parF; rw [e, if_pos h2]
theorem par_add (h : ParI pre rows ats) (hp : pre ++ [x] <+: toldF s) (h1 : (scanF x.1 x.2).2 = 0) (h2 : (lnB x).2.2 = 0) (h3 : (lnB x).2.1 = true) (h4 : addE (kv rows) (lnB x).1 ≠ 0) : (parF s).2 = (x.1, addE (kv rows) (lnB x).1) := by
 obtain ⟨l, hl⟩ := par_at h hp
 have e : parB (toldF s) [] [] = ((rows, ats), x.1, addE (kv rows) (lnB x).1) := by rw [hl, parB, if_neg (by omega), if_neg (by omega), if_neg (by rw [h3]; decide), if_pos h4]
 unfold parF; rw [e, if_pos h4]
theorem par_all (h : ParI (toldF s) rows ats) : parB (toldF s) [] [] = ((rows, ats), 0, 0) := by
 have := h []; rw [List.append_nil] at this; rw [this, parB]
theorem par_lone (h : ParI (toldF s) rows ats) (hi : 0 ≤ idxL (kv rows) rows) : (parF s).2 = (ats.getD (idxL (kv rows) rows).toNat 0, 82) := by
 unfold parF; rw [par_all h, if_neg (by simp)]
 unfold idxL at hi ⊢
 cases hq : loneI (kv rows) rows 0 with
 | none => rw [hq] at hi; simp only at hi; omega
 | some j => simp
theorem par_ok (h : ParI (toldF s) rows ats) (hi : idxL (kv rows) rows < 0) : parF s = ((rows, ats), 0, 0) := by
 unfold parF; rw [par_all h, if_neg (by simp)]
 unfold idxL at hi
 cases hq : loneI (kv rows) rows 0 with
 | none => rfl
 | some j => rw [hq] at hi; simp only at hi; omega
theorem par_add2 {ml : List (Int × Brk)} (h : ParI pre rows ats) (hp : pre ++ [x] <+: toldF s) (hm : ml = kv rows) (h1 : (scanF x.1 x.2).2 = 0) (h2 : (lnB x).2.2 = 0) (h3 : (lnB x).2.1 = true) (h4 : addE ml (lnB x).1 ≠ 0) : (parF s).2 = (x.1, addE ml (lnB x).1) := by
 subst hm; exact par_add h hp h1 h2 h3 h4
theorem par_lone2 {ml : List (Int × Brk)} (h : ParI (toldF s) rows ats) (hm : ml = kv rows) (hi : 0 ≤ idxL ml rows) : (parF s).2 = (ats.getD (idxL ml rows).toNat 0, 82) := by subst hm; exact par_lone h hi
theorem par_ok2 {ml : List (Int × Brk)} (h : ParI (toldF s) rows ats) (hm : ml = kv rows) (hi : idxL ml rows < 0) : parF s = ((rows, ats), 0, 0) := by subst hm; exact par_ok h hi
theorem addM_kv {ml : List (Int × Brk)} {y : Brk} (hm : ml = kv rows) (h : addE ml y = 0) : addM ml y = kv (rows ++ [y]) := by
 rw [addM_y h, kv_snoc, hm]
theorem add_kv {ml : List (Int × Brk)} {y : Brk} (hm : ml = kv rows) (h : addE ml y = 0) : addE (kv rows) y = 0 := hm ▸ h
theorem ats_at {i : Int} {y : Int} (h0 : 0 ≤ i) (h : ats[i.toNat]? = some y) : ats.getD i.toNat 0 = y := by rw [List.getD_eq_getElem?_getD, h]; rfl
theorem par_lone3 {ml : List (Int × Brk)} {y : Int} (h : ParI (toldF s) rows ats) (hm : ml = kv rows) (hi : 0 ≤ idxL ml rows) (hy : ats[(idxL ml rows).toNat]? = some y) : (parF s).2 = (y, 82) := by
 rw [par_lone2 h hm hi, ats_at hi hy]
end
end Go.FK
end

/- === PBr5 === -/
section
/- PBr5: chapter 8: twins. My own text. -/
namespace Go.FK
def cntT (m : List (Int × Brk)) (x : Int × Int) : Bool := (gget m x.1).isSome
def layT (m : List (Int × Brk)) (t : List (Int × Int)) (x : Int × Int) : List (Int × Int) := if cntT m x = true ∧ (gget t x.1).isSome = false then t ++ [(x.1, x.2)] else t
def twsM (m : List (Int × Brk)) (l : List (Int × Int)) : List (Int × Int) := l.foldl (layT m) []
def tw1 (t : List (Int × Int)) (r : Int) : Int := (gget t r).getD r
def badT (m : List (Int × Brk)) (t : List (Int × Int)) (x : Int × Int) : Bool :=
  cntT m x && (!(gget m x.2).isSome || !decide ((lookB m x.2).2.2 = (lookB m x.1).2.2) || (gget t x.2).isSome || !decide (tw1 t (lookB m x.1).2.1 = (lookB m x.2).2.1))
def badI (m : List (Int × Brk)) (t : List (Int × Int)) : List (Int × Int) → Nat → Option Nat
  | [], _ => none
  | x :: l, i => if badT m t x = true then some i else badI m t l (i + 1)
def twE (m : List (Int × Brk)) (l : List (Int × Int)) : Option Nat := badI m (twsM m l) l 0
section
variable {m : List (Int × Brk)} {t : List (Int × Int)} {l : List (Int × Int)} {i : Nat} {x : Int × Int}
theorem tws_next (hx : l[i]? = some x) : layT m (twsM m (l.take i)) x = twsM m (l.take (i + 1)) := by
 rw [List.take_add_one, hx, Option.toList_some, twsM, twsM, List.foldl_append]; rfl
theorem tws_no (ht : t = twsM m (l.take i)) (hx : l[i]? = some x) (h : (gget m x.1).isSome = false) : t = twsM m (l.take (i + 1)) := by
 rw [← tws_next hx, layT, if_neg (by unfold cntT; rw [h]; simp)]; exact ht
theorem tws_had (ht : t = twsM m (l.take i)) (hx : l[i]? = some x) (h : (gget t x.1).isSome = true) : t = twsM m (l.take (i + 1)) := by
 rw [← tws_next hx, ← ht, layT, if_neg (by rw [h]; simp)]
theorem tws_add (ht : t = twsM m (l.take i)) (hx : l[i]? = some x) (h : (gget m x.1).isSome = true) (h2 : (gget t x.1).isSome = false) : t ++ [(x.1, x.2)] = twsM m (l.take (i + 1)) := by
 rw [← tws_next hx, ← ht, layT, if_pos ⟨h, h2⟩]
theorem tws_all (ht : t = twsM m (l.take i)) (hi : l.length ≤ i) : t = twsM m l := by rw [ht, List.take_of_length_le hi]
def BadI (m : List (Int × Brk)) (t : List (Int × Int)) (l : List (Int × Int)) (i : Nat) : Prop := badI m t l 0 = badI m t (l.drop i) i
theorem BadI.zero : BadI m t l 0 := rfl
theorem BadI.step (h : BadI m t l i) (hx : l[i]? = some x) (hn : badT m t x = false) : BadI m t l (i + 1) := by
 unfold BadI at *
 rw [h, wL hx, badI, if_neg (by rw [hn]; decide)]
theorem BadI.hit (h : BadI m t l i) (hx : l[i]? = some x) (hn : badT m t x = true) : badI m t l 0 = some i := by
 rw [h, wL hx, badI, if_pos hn]
theorem BadI.end (h : BadI m t l i) (hi : l.length ≤ i) : badI m t l 0 = none := by
 rw [h, List.drop_eq_nil_of_le hi]; rfl
theorem bt_no (h : (gget m x.1).isSome = false) : badT m t x = false := by unfold badT cntT; rw [h]; rfl
theorem qZ (h : (gget m x.1).isSome = true) (h1 : (gget m x.2).isSome = false) : badT m t x = true := by unfold badT cntT; simp [h, h1]
theorem qY (h : (gget m x.1).isSome = true) (h1 : (lookB m x.2).2.2 ≠ (lookB m x.1).2.2) : badT m t x = true := by unfold badT cntT; simp [h, h1]
theorem bt_3 (h : (gget m x.1).isSome = true) (h1 : (gget t x.2).isSome = true) : badT m t x = true := by unfold badT cntT; simp [h, h1]
theorem bt_4 (h : (gget m x.1).isSome = true) (h1 : tw1 t (lookB m x.1).2.1 ≠ (lookB m x.2).2.1) : badT m t x = true := by unfold badT cntT; simp [h, h1]
theorem bt_ok (h : (gget m x.1).isSome = true) (h1 : (gget m x.2).isSome = true) (h2 : (lookB m x.2).2.2 = (lookB m x.1).2.2) (h3 : (gget t x.2).isSome = false) (h4 : tw1 t (lookB m x.1).2.1 = (lookB m x.2).2.1) : badT m t x = false := by
 unfold badT cntT; simp [h, h1, h2, h3, h4]
theorem tw1_n {r : Int} (h : (gget t r).isSome = false) : tw1 t r = r := by
 unfold tw1; cases hq : gget t r with
 | none => rfl
 | some y => rw [hq] at h; cases h
theorem tw1_y {r : Int} (h : (gget t r).isSome = true) : tw1 t r = (gget t r).getD 0 := by
 unfold tw1; cases hq : gget t r with
 | some y => rfl
 | none => rw [hq] at h; cases h
def twI (m : List (Int × Brk)) (l : List (Int × Int)) : Nat := (twE m l).getD 0
theorem qK {j : Nat} (ht : t = twsM m (l.take i)) (hi : l.length ≤ i) (h : badI m t l 0 = some j) : twI m l = j := by
 unfold twI twE; rw [← tws_all ht hi, h]; rfl
theorem yV {j : Nat} (hok : twE m l = none) (ht : t = twsM m (l.take i)) (hi : l.length ≤ i) (h : badI m t l 0 = some j) : False := by
 unfold twE at hok; rw [← tws_all ht hi, h] at hok; cases hok
theorem tw_ok (ht : t = twsM m (l.take i)) (hi : l.length ≤ i) (h : badI m t l 0 = none) : twE m l = none := by
 unfold twE; rw [← tws_all ht hi]; exact h
end
end Go.FK
end

/- === PBr6 === -/
section
/- PBr6: chapter 8: others, sides, twins, matches of a book that New or Twins made. My own text. -/
namespace Go.FK
def TwG (m : List (Int × Brk)) (t : List (Int × Int)) : Prop := t = [] ∨ ∃ l, t = twsM m l ∧ twE m l = none
section
variable {rows : List Brk} {t : List (Int × Int)} {x : Brk}
structure PairsP (m : List (Int × Brk)) (t : List (Int × Int)) (x : Brk) : Prop where
  p1 : (brkF m x.1).1 = x.2.1
  p2 : (brkF m x.1).2 = x.2.2
  p3 : (brkF m (brkF m x.1).1).1 = x.1
  p4 : (brkF m (brkF m x.1).1).2 ≠ (brkF m x.1).2
  p5 : (brkF m (brkF m x.1).1).2 ≠ 0
  p6 : (brkF m (twnF t x.1)).2 = (brkF m x.1).2
  p7 : twnF t (twnF t x.1) = twnF t x.1
  p8 : (brkF m (twnF t x.1)).1 = twnF t (brkF m x.1).1
  p9 : mtcF m t x.1 x.2.1 = true ↔ (brkF m x.1).2 = 1
  p10 : mtcF m t x.2.1 x.1 = true ↔ (brkF m x.1).2 = 2
  p11 : ∀ q, (brkF m q).2 = 0 → mtcF m t x.1 q = false ∧ mtcF m t q x.1 = false
end
end Go.FK
end

/- === PLapart === -/
section
/- Plain laws of chapter 3: two texts, one behind the other: the lines of both, those of the second counted on. -/
namespace Go.FK
open Go Go.RowKit
def shP (n : Nat) (p : Nat × Nat × Nat) : Nat × Nat × Nat := (p.1 + n, p.2.1 + n, p.2.2 + n)
def shT (n : Nat) (x : Int × List UInt8) : Int × List UInt8 := (x.1 + n, x.2)
def shL (n : Nat) (x : LineD) : LineD := (x.1 + n, x.2)
section
variable {a b : List UInt8}
end
def shI (n i : Nat) (l : List LineD) : List LineD := (l.take i).map (shL n) ++ l.drop i
section
variable {F : Nat} {w w' : World} {B E k : Nat} {enc : LineV → List Value} {v u q : Value} {xs ys : List LineV}
end
end Go.FK
end

/- === PBr7 === -/
section
/- PBr7: chapter 8: what a book writes is read as the same. My own text. -/
namespace Go.FK
open Go Go.RowKit
def dgB (c : UInt8) : Bool := decide (48 ≤ c.toNat ∧ c.toNat ≤ 57) || decide (65 ≤ c.toNat ∧ c.toNat ≤ 70)
def plB (c : UInt8) : Bool := decide ((33 ≤ c.toNat ∧ c.toNat < 127) ∧ c.toNat ≠ 35 ∧ c.toNat ≠ 59 ∧ c.toNat ≠ 64)
section
variable {A B C : List UInt8} (hA : ∀ c ∈ A, plB c = true) (hB : ∀ c ∈ B, plB c = true) (hC : ∀ c ∈ C, plB c = true) (nA : A ≠ []) (nC : C ≠ [])
def line3 (A B C : List UInt8) : List UInt8 := A ++ 59 :: (32 :: (B ++ 59 :: (32 :: C)))
end
def lnOf (x : Brk) : List UInt8 := line3 (showF x.1).1 (showF x.2.1).1 (letterS x.2.2)
theorem may_parts {x : Brk} (h : mayR x = true) : (0 ≤ x.1 ∧ x.1 ≤ 1114111) ∧ (0 ≤ x.2.1 ∧ x.2.1 ≤ 1114111) ∧ (x.2.2 = 1 ∨ x.2.2 = 2) := by
 unfold mayR ptB at h
 simp only [Bool.and_eq_true, Bool.or_eq_true, decide_eq_true_eq] at h
 exact ⟨h.1.1.1, h.1.1.2, h.2⟩
section
variable {x : Brk} (h : mayR x = true)
include h
end
def tlB : Nat → List Brk → List (Int × List UInt8)
  | _, [] => []
  | k, x :: l => ((k : Int) + 1, lnOf x) :: tlB (k + 1) l
def atB : Nat → List Brk → List Int
  | _, [] => []
  | k, _ :: l => ((k : Int) + 1) :: atB (k + 1) l
theorem gget_perm {r1 r2 : List Brk} (hp : r1.Perm r2) (h1 : (r1.map (·.1)).Nodup) (r : Int) : gget (kv r1) r = gget (kv r2) r := by
 have a : (r2.map (·.1)).Nodup := (hp.map _).nodup_iff.1 h1
 cases hq : gget (kv r1) r with
 | some x =>
  obtain ⟨hx, e⟩ := kv_mem hq
  subst e
  exact (kv_get a (hp.mem_iff.1 hx)).symm
 | none =>
  cases hz : gget (kv r2) r with
  | none => rfl
  | some y =>
   obtain ⟨hy, e⟩ := kv_mem hz
   subst e
   rw [kv_get h1 (hp.mem_iff.2 hy)] at hq; cases hq
theorem kv_keys (rows : List Brk) : (kv rows).map (·.1) = rows.map (·.1) := by unfold kv; rw [List.map_map]; rfl
theorem look_all {rows : List Brk} (hn : (rows.map (·.1)).Nodup) : (rows.map (·.1)).map (lookB (kv rows)) = rows := by
 rw [List.map_map]
 conv => rhs; rw [← List.map_id rows]
 refine List.map_congr_left fun x hx => ?_
 show lookB (kv rows) x.1 = x
 unfold lookB; rw [kv_get hn hx]; rfl
theorem rowsB_perm {rows : List Brk} (hb : BookOk rows) : (rowsB (kv rows)).Perm rows := by
 unfold rowsB keysB
 rw [kv_keys]
 refine ((srtI_perm _).map _).trans (List.Perm.of_eq (look_all hb.nodup))
theorem kv_len (rows : List Brk) : (kv rows).length = rows.length := by unfold kv; rw [List.length_map]
end Go.FK
end

/- === PRb1 === -/
section
/- PRb1: chapter 8: what the document's answer does: a row found, the first row refused, rows laid in order. My own text. -/
namespace Go.FK
open Go Go.RowKit
section
variable {rows acc c : List Brk} {x y : Brk} {i k : Nat} {r : Int}
theorem fd_on (h : gget (kv (rows.take i)) r = none) (hx : rows[i]? = some x) (hn : x.1 ≠ r) : gget (kv (rows.take (i + 1))) r = none := by
 rw [← kv_take hx, gget_snoc, h]; exact if_neg (fun e => hn e.symm)
theorem fd_more {l m : List (Int × Brk)} (h : gget l r = some x) : gget (l ++ m) r = some x := by
 induction l with
 | nil => cases h
 | cons p l ih =>
  rw [List.cons_append, vL]
  rw [vL] at h
  split
  ·rename_i e; rwa [if_pos e] at h
  ·rename_i e; rw [if_neg e] at h; exact ih h
theorem fd_hit (h : gget (kv (rows.take i)) r = none) (hx : rows[i]? = some x) (he : x.1 = r) : gget (kv rows) r = some x := by
 have a : gget (kv (rows.take (i + 1))) r = some x := by rw [← kv_take hx, gget_snoc, h]; exact if_pos he.symm
 have b : kv rows = kv (rows.take (i + 1)) ++ kv (rows.drop (i + 1)) := by unfold kv; rw [← List.map_append, List.take_append_drop]
 rw [b]; exact fd_more a
theorem fd_end (h : gget (kv (rows.take i)) r = none) (hi : rows.length ≤ i) : gget (kv rows) r = none := by rwa [kv_all hi] at h
theorem lk_hit {m : List (Int × Brk)} (h : gget m r = some x) : lookB m r = x := by unfold lookB; rw [h]; rfl
theorem lk_none {m : List (Int × Brk)} (h : gget m r = none) : lookB m r = (0, 0, 0) := by unfold lookB; rw [h]; rfl
theorem is_hit {m : List (Int × Brk)} (h : gget m r = some x) : (gget m r).isSome = true := by rw [h]; rfl
theorem is_none {m : List (Int × Brk)} (h : gget m r = none) : (gget m r).isSome = false := by rw [h]; rfl
theorem mayr_iff {a o s : Int} : mayR (a, o, s) = true ↔ (0 ≤ a ∧ a ≤ 1114111) ∧ (0 ≤ o ∧ o ≤ 1114111) ∧ a ≠ o ∧ (s = 1 ∨ s = 2) := by
 unfold mayR ptB
 simp only [Bool.and_eq_true, Bool.or_eq_true, decide_eq_true_eq, Bool.not_eq_true', decide_eq_false_iff_not, and_assoc, ne_eq]
theorem mayr_y {a o s : Int} (h : (0 ≤ a ∧ a ≤ 1114111) ∧ (0 ≤ o ∧ o ≤ 1114111) ∧ a ≠ o ∧ (s = 1 ∨ s = 2)) : true = mayR (a, o, s) := (mayr_iff.2 h).symm
theorem mayr_n {a o s : Int} (h : ¬ ((0 ≤ a ∧ a ≤ 1114111) ∧ (0 ≤ o ∧ o ≤ 1114111) ∧ a ≠ o ∧ (s = 1 ∨ s = 2))) : false = mayR (a, o, s) := by
 cases hq : mayR (a, o, s) with
 | false => rfl
 | true => exact absurd (mayr_iff.1 hq) h
def fsI (rows : List Brk) : Nat := ((fstB [] rows 0).getD (0, 0)).1
def fsE (rows : List Brk) : Int := ((fstB [] rows 0).getD (0, 0)).2
theorem fs_bad (h : FstI rows i) (hx : rows[i]? = some x) (hm : mayR x = false) : fsI rows = i ∧ fsE rows = 80 := by
 have e : fstB [] rows 0 = some (i, 80) := by rw [h, wL hx, fstB, if_pos hm]
 unfold fsI fsE; rw [e]; exact ⟨rfl, rfl⟩
theorem wW (h : FstI rows i) (hx : rows[i]? = some x) (hm : mayR x = true) (hn : (gget (kv (rows.take i)) x.1).isSome = true) : fsI rows = i ∧ fsE rows = 81 := by
 have e : fstB [] rows 0 = some (i, 81) := by rw [h, wL hx, fstB, if_neg (by rw [hm]; decide), if_pos hn]
 unfold fsI fsE; rw [e]; exact ⟨rfl, rfl⟩
theorem fs_all (h : FstI rows i) (hi : rows.length ≤ i) : fsI rows = 0 ∧ fsE rows = 0 := by
 have e : fstB [] rows 0 = none := by rw [h, List.drop_eq_nil_of_le hi]; rfl
 unfold fsI fsE; rw [e]; exact ⟨rfl, rfl⟩
theorem fst_codes : ∀ (l done : List Brk) (i : Nat) (q : Nat × Int), fstB done l i = some q → q.2 = 80 ∨ q.2 = 81
 | [], _, _, _, h => by cases h
 | z :: l, done, i, q, h => by
  rw [fstB] at h
  split at h
  ·cases h; exact .inl rfl
  ·split at h
   ·cases h; exact .inr rfl
   ·exact fst_codes l _ _ q h
theorem fs_none (h : fsE rows = 0) : fstB [] rows 0 = none := by
 cases hq : fstB [] rows 0 with
 | none => rfl
 | some q => exfalso; unfold fsE at h; rw [hq] at h; have := fst_codes _ _ _ _ hq; simp only [Option.getD_some] at h; omega
theorem fs_some (h : fsE rows ≠ 0) : newB rows = some (fsI rows, fsE rows) := by
 cases hq : fstB [] rows 0 with
 | none => exfalso; unfold fsE at h; rw [hq] at h; exact h rfl
 | some q => unfold newB fsI fsE; rw [hq]; rfl
theorem fs_new (h : fsE rows ≠ 0) : newI rows = fsI rows ∧ newE rows = fsE rows := vR (fs_some h)
theorem fs_lone (h : fsE rows = 0) (hl : LonI (kv rows) rows i) (hx : rows[i]? = some x) (hb : loneM (kv rows) x = true) : newB rows = some (i, 82) := by
 unfold newB; rw [fs_none h]; simp only; rw [hl.hit hx hb]; rfl
theorem fs_fine (h : fsE rows = 0) (hl : LonI (kv rows) rows i) (hi : rows.length ≤ i) : newB rows = none := by
 unfold newB; rw [fs_none h]; simp only; rw [hl.end hi]; rfl
def SrtB (l : List Brk) : Prop := l.Pairwise fun a b => a.1 ≤ b.1
structure InsI (rows : List Brk) (i : Nat) (acc : List Brk) : Prop where
  perm : acc.Perm (rows.take i)
  srt : SrtB acc
theorem InsI.zero (rows : List Brk) : InsI rows 0 [] := ⟨List.Perm.refl _, List.Pairwise.nil⟩
theorem InsI.len (h : InsI rows i acc) (hi : i ≤ rows.length) : acc.length = i := by rw [h.perm.length_eq, List.length_take]; omega
structure InsW (acc c : List Brk) (x : Brk) (k : Nat) : Prop where
  le : k ≤ acc.length
  ex : ∃ z, c = acc.take k ++ z :: acc.drop k
  lt : ∀ y ∈ acc.drop k, x.1 < y.1
theorem InsW.start (acc : List Brk) (x : Brk) : InsW acc (acc ++ [x]) x acc.length :=
 ⟨Nat.le_refl _, ⟨x, by rw [List.take_length, List.drop_length]⟩, fun y h => by rw [List.drop_length] at h; cases h⟩
theorem InsW.len (h : InsW acc c x k) : c.length = acc.length + 1 := by
 obtain ⟨z, rfl⟩ := h.ex
 have := h.le
 rw [List.length_append, List.length_cons, List.length_take, List.length_drop]; omega
theorem InsW.prev (h : InsW acc c x k) (hk : 0 < k) (hy : c[k - 1]? = some y) : acc[k - 1]? = some y := by
 obtain ⟨z, rfl⟩ := h.ex
 have hl := h.le
 rw [List.getElem?_append_left (by rw [List.length_take]; omega), List.getElem?_take, if_pos (by omega)] at hy
 exact hy
theorem InsW.set (h : InsW acc c x k) (y : Brk) : c.set k y = acc.take k ++ y :: acc.drop k := by
 obtain ⟨z, rfl⟩ := h.ex
 have hl : (acc.take k).length = k := by rw [List.length_take]; have := h.le; omega
 rw [List.set_append, if_neg (by omega), hl, Nat.sub_self, List.set_cons_zero]
theorem InsW.step (h : InsW acc c x k) (hk : 0 < k) (hy : c[k - 1]? = some y) (hlt : x.1 < y.1) : InsW acc (c.set k y) x (k - 1) := by
 have ha := h.prev hk hy
 have hd : acc.drop (k - 1) = y :: acc.drop k := by have := wL ha; rwa [show k - 1 + 1 = k by omega] at this
 have ht : acc.take k = acc.take (k - 1) ++ [y] := by have := List.take_add_one (l := acc) (i := k - 1); rw [show k - 1 + 1 = k by omega, ha] at this; exact this
 refine ⟨by have := h.le; omega, ⟨y, ?_⟩, fun z hz => ?_⟩
 ·rw [h.set y, hd, ht, List.append_assoc]; rfl
 ·rw [hd] at hz
  rcases List.mem_cons.1 hz with rfl | hz
  ·exact hlt
  ·exact h.lt z hz
theorem InsW.done (h : InsW acc c x k) (hi : InsI rows i acc) (hx : rows[i]? = some x) (he : k = 0 ∨ ∃ y, c[k - 1]? = some y ∧ y.1 ≤ x.1) : InsI rows (i + 1) (c.set k x) := by
 refine ⟨?_, ?_⟩
 ·rw [h.set x, List.take_add_one, hx, Option.toList_some]
  refine List.perm_middle.trans ?_
  rw [List.take_append_drop]
  exact ((List.perm_cons x).2 hi.perm).trans (List.perm_append_comm (l₁ := [x]))
 ·unfold SrtB
  rw [h.set x]
  have hs : (acc.take k ++ acc.drop k).Pairwise fun a b => a.1 ≤ b.1 := by rw [List.take_append_drop]; exact hi.srt
  rw [List.pairwise_append] at hs
  refine List.pairwise_append.2 ⟨hs.1, List.pairwise_cons.2 ⟨fun y hy => Int.le_of_lt (h.lt y hy), hs.2.1⟩, fun a ha b hb => ?_⟩
  rcases List.mem_cons.1 hb with rfl | hb
  ·rcases he with rfl | ⟨y, hy, hyx⟩
   ·rw [List.take_zero] at ha; cases ha
   ·rcases Nat.eq_zero_or_pos k with d | d
    ·subst d; rw [List.take_zero] at ha; cases ha
    ·have hp := h.prev d hy
     have ht : acc.take k = acc.take (k - 1) ++ [y] := by have := List.take_add_one (l := acc) (i := k - 1); rw [show k - 1 + 1 = k by omega, hp] at this; exact this
     rw [ht] at ha hs
     rcases List.mem_append.1 ha with ha | ha
     ·have := (List.pairwise_append.1 hs.1).2.2 a ha y (List.mem_singleton.2 rfl); omega
     ·rw [List.mem_singleton.1 ha]; exact hyx
  ·exact hs.2.2 a ha b hb
def InsX (rows acc c : List Brk) (i k : Nat) : Prop := ∃ x, rows[i]? = some x ∧ InsW acc c x k
theorem InsX.start (hx : rows[i]? = some x) (hk : acc.length = k) : InsX rows acc (acc ++ [x]) i k := ⟨x, hx, hk ▸ InsW.start acc x⟩
theorem InsX.len (h : InsX rows acc c i k) : c.length = acc.length + 1 ∧ k ≤ acc.length := by obtain ⟨_, _, h⟩ := h; exact ⟨h.len, h.le⟩
theorem InsX.step (h : InsX rows acc c i k) (hx : rows[i]? = some x) (hk : 0 < k) (hy : c[k - 1]? = some y) (hlt : x.1 < y.1) : InsX rows acc (c.set k y) i (k - 1) := by
 obtain ⟨z, hz, h⟩ := h
 obtain rfl : z = x := Option.some.inj (hz.symm.trans hx)
 exact ⟨z, hz, h.step hk hy hlt⟩
theorem InsX.done (h : InsX rows acc c i k) (hi : InsI rows i acc) (hx : rows[i]? = some x) (he : k = 0 ∨ ∃ y, c[k - 1]? = some y ∧ y.1 ≤ x.1) : InsI rows (i + 1) (c.set k x) := by
 obtain ⟨z, hz, h⟩ := h
 obtain rfl : z = x := Option.some.inj (hz.symm.trans hx)
 exact h.done hi hz he
theorem ins_dead {e : Nat × Int} (h : newB rows = none) (hb : newB rows = some e) : False := by rw [h] at hb; cases hb
theorem InsI.all (h : InsI rows i acc) (hi : rows.length ≤ i) (hb : newB rows = none) : acc = rowsB (kv rows) := by
 have hB := newB_ok hb
 have hp : acc.Perm rows := by have := h.perm; rwa [List.take_of_length_le hi] at this
 have hk : acc.map (·.1) = keysB (kv rows) := by
  refine pw_unique ?_ ?_ (srtI_pw _)
  ·exact (hp.map _).trans ((by rw [kv_keys] : ((kv rows).map (·.1)).Perm (rows.map (·.1))).symm.trans (srtI_perm _).symm)
  ·exact List.pairwise_map.2 h.srt
 unfold rowsB
 rw [← hk, List.map_map]
 refine (List.map_id acc).symm.trans (List.map_congr_left fun y hy => ?_)
 exact (lk_hit (kv_get hB.nodup (hp.mem_iff.1 hy))).symm
end
end Go.FK
end

/- === PRb2 === -/
section
/- PRb2: chapter 8: what the document's book answers: others, twins, matches, what it writes. My own text. -/
namespace Go.FK
open Go Go.RowKit
def pT (m : List (Int × Brk)) (r : Int) (x : Int × Int) : Bool := (gget m x.1).isSome && decide (x.1 = r)
def twF (ws : List Brk) (l : List (Int × Int)) (r : Int) : Int := match l.find? (pT (kv ws) r) with | some x => x.2 | none => r
def tldF (ws : List Brk) (l : List (Int × Int)) (r : Int) : Bool := (l.find? (pT (kv ws) r)).isSome
def mtcW (ws : List Brk) (wt : List (Int × Int)) (o c : Int) : Bool := decide ((brkF (kv ws) o).2 = 1) && (decide ((brkF (kv ws) c).2 = 2) && decide (twF ws wt (askB (brkF (kv ws) o).1) = twF ws wt (askB c)))
section
variable {ws : List Brk} {l wt : List (Int × Int)} {x : Int × Int} {i : Nat} {r : Int} {m : List (Int × Brk)}
theorem tf_on1 (h : (l.take i).find? (pT m r) = none) (hx : l[i]? = some x) (hn : (gget m x.1).isSome = false) : (l.take (i + 1)).find? (pT m r) = none := by
 rw [List.take_add_one, hx, Option.toList_some, List.find?_append, h]; unfold pT; simp [hn]
theorem tf_on2 (h : (l.take i).find? (pT m r) = none) (hx : l[i]? = some x) (hn : x.1 ≠ r) : (l.take (i + 1)).find? (pT m r) = none := by
 rw [List.take_add_one, hx, Option.toList_some, List.find?_append, h]; unfold pT; simp [hn]
theorem tf_hit (h : (l.take i).find? (pT m r) = none) (hx : l[i]? = some x) (h1 : (gget m x.1).isSome = true) (h2 : x.1 = r) : l.find? (pT m r) = some x := by
 have e : l = l.take i ++ (x :: l.drop (i + 1)) := by rw [← wL hx, List.take_append_drop]
 rw [e, List.find?_append, h, List.find?_cons_of_pos (by unfold pT; rw [h1, decide_eq_true h2]; rfl)]; rfl
theorem tf_end (h : (l.take i).find? (pT m r) = none) (hi : l.length ≤ i) : l.find? (pT m r) = none := by rwa [List.take_of_length_le hi] at h
theorem tw_hit (h : (l.take i).find? (pT (kv ws) r) = none) (hx : l[i]? = some x) (h1 : (gget (kv ws) x.1).isSome = true) (h2 : x.1 = r) : twF ws l r = x.2 := by unfold twF; rw [tf_hit h hx h1 h2]
theorem tw_end (h : (l.take i).find? (pT (kv ws) r) = none) (hi : l.length ≤ i) : twF ws l r = r := by unfold twF; rw [tf_end h hi]
theorem tl_hit (h : (l.take i).find? (pT (kv ws) r) = none) (hx : l[i]? = some x) (h1 : (gget (kv ws) x.1).isSome = true) (h2 : x.1 = r) : tldF ws l r = true := by unfold tldF; rw [tf_hit h hx h1 h2]; rfl
theorem tl_end (h : (l.take i).find? (pT (kv ws) r) = none) (hi : l.length ≤ i) : tldF ws l r = false := by unfold tldF; rw [tf_end h hi]; rfl
theorem ask_ny (h1 : 0 ≤ r) (h2 : r ≤ 1114111) : askB r = r := ask_y (decide_eq_true ⟨h1, h2⟩)
theorem ask_nn (h : r < 0 ∨ 1114111 < r) : askB r = 65533 := ask_n (decide_eq_false (by omega))
theorem brk_look (m : List (Int × Brk)) (r : Int) : brkF m r = ((lookB m (askB r)).2.1, (lookB m (askB r)).2.2) := by
 unfold brkF lookB; cases gget m (askB r) <;> rfl
theorem mtw_1 {o c : Int} (h : (brkF (kv ws) o).2 ≠ 1) : mtcW ws wt o c = false := by unfold mtcW; simp [h]
theorem mtw_2 {o c : Int} (h : (brkF (kv ws) c).2 ≠ 2) : mtcW ws wt o c = false := by unfold mtcW; simp [h]
theorem mtw_3 {o c : Int} (h1 : (brkF (kv ws) o).2 = 1) (h2 : (brkF (kv ws) c).2 = 2) : mtcW ws wt o c = decide (twF ws wt (askB (brkF (kv ws) o).1) = twF ws wt (askB c)) := by unfold mtcW; simp [h1, h2]
end
theorem wrr_step {ws : List Brk} {acc : List UInt8} {x : Brk} {i : Nat} (h : acc = (ws.take i).flatMap lineB) (hx : ws[i]? = some x) : acc ++ (showF x.1).1 ++ [59, 32] ++ (showF x.2.1).1 ++ [59, 32] ++ letterS x.2.2 ++ [10] = (ws.take (i + 1)).flatMap lineB := by
 rw [List.take_add_one, hx, Option.toList_some, List.flatMap_append, ← h, List.flatMap_singleton]; unfold lineB; simp only [List.append_assoc]
theorem wrr_len {ws : List Brk} {acc : List UInt8} {i : Nat} (h : acc = (ws.take i).flatMap lineB) (hi : i ≤ ws.length) : acc.length ≤ 47 * i := by
 rw [h]; have := flatB_len (ws.take i); rw [List.length_take, Nat.min_eq_left hi] at this; exact this
structure RelB (rs : List (Int × Brk)) (ts : List (Int × Int)) (ws : List Brk) (wt : List (Int × Int)) : Prop where
  get : ∀ r, gget rs r = gget (kv ws) r
  rows : rowsB rs = ws
  twin : ∀ r, (gget ts r).getD r = twF ws wt r
section
variable {rs : List (Int × Brk)} {ts wt : List (Int × Int)} {ws : List Brk}
theorem RelB.brk (h : RelB rs ts ws wt) (r : Int) : brkF rs r = brkF (kv ws) r := by unfold brkF; rw [h.get]
theorem RelB.twn (h : RelB rs ts ws wt) (r : Int) : twnF ts r = twF ws wt (askB r) := h.twin (askB r)
theorem RelB.mtc (h : RelB rs ts ws wt) (o c : Int) : mtcF rs ts o c = mtcW ws wt o c := by
 unfold mtcF mtcW; rw [h.brk, h.brk, h.twn, h.twn]
theorem RelB.write (h : RelB rs ts ws wt) : writeB rs = ws.flatMap lineB := by unfold writeB; rw [h.rows]
theorem RelB.new {rows : List Brk} (h : newB rows = none) : RelB (kv rows) [] (rowsB (kv rows)) [] := by
 have hb := newB_ok h
 exact ⟨fun r => gget_perm (rowsB_perm hb).symm hb.nodup r, rfl, fun r => rfl⟩
theorem RelB.lt (h : RelB rs ts ws wt) {pre : List Brk} {x : Brk} (hp : pre ++ [x] <+: rowsB rs) : pre.length + 1 ≤ ws.length := by
 have := hp.length_le; rw [h.rows, List.length_append, List.length_singleton] at this; exact this
theorem RelB.at (h : RelB rs ts ws wt) {pre : List Brk} {x y : Brk} {k : Nat} (hp : pre ++ [x] <+: rowsB rs) (hk : k = pre.length) (hy : ws[k]? = some y) : x = y := by
 rw [h.rows] at hp
 obtain ⟨t, ht⟩ := hp
 rw [← ht, hk, List.append_assoc, List.getElem?_append_right (Nat.le_refl _), Nat.sub_self] at hy
 exact Option.some.inj hy
theorem brk_nb {x y : Brk} (h : (x.1 == y.1 && x.2.1 == y.2.1 && x.2.2 == y.2.2) = false) (e : x = y) : False := by subst e; simp at h
theorem RelB.len (h : RelB rs ts ws wt) : ws.length = rs.length := by rw [← h.rows, vM]
end
end Go.FK
end

/- === FKaq === -/
section
/- FKaq: short laws for the walks' texts: what can be read off is read off, closed facts are defaults. My own text. -/
namespace Go.FK
open Go Go.RowKit
theorem zk {p : Prop} (h : p := by kernel_rfl) : p := h
theorem zo {p : Prop} (h : p := by omega) : p := h
theorem za {p : Prop} (h : p := by assumption) : p := h
theorem zl {p : Prop} (h : p := by (simp only [List.length_append, List.length_take, List.length_drop, List.length_replicate, List.length_cons, List.length_nil] <;> omega)) : p := h
@[reducible] def pt (b o : Nat) : Value := .pointer (some ⟨b, o, none⟩)
@[reducible] def I8 (x : Int) : Value := .int .i8 x
@[reducible] def I3 (x : Int) : Value := .int .i32 x
@[reducible] def I6 (x : Int) : Value := .int .i64 x
@[reducible] def U8 (x : Int) : Value := .int .u8 x
@[reducible] def N6 (x : Nat) : Value := .int .i64 (x : Int)
@[reducible] def vB (b : Bool) : Value := .bool b
@[reducible] def vF (b : Nat) : Value := .float .f64 b
@[reducible] def vx (v : Value) : Value := v
@[reducible] def ob (l : List Value) (E : TypeId) : Obj := .cells l.toArray E (0, 0)
theorem _root_.Go.RowKit.Below.tr {w a b : World} (hb : Below w.heap.size w a) (h : Below a.heap.size a b) : Below w.heap.size w b := hb.trans (h.mono hb.size)
theorem _root_.Go.RowKit.Below.tg {w a b : World} {v : Value} {B E k m : Nat} {xs : List Value} (hb : Below B w a) (hs : B ≤ a.heap.size) (hg : a.grownBy b v.ownBlock) (h : a.ownsRow B E k v m xs) : Below B w b :=
 hb.grown hg hs (fun k hk => (World.ownsRow.lt h k hk).1)
theorem New.ge {w a b : World} {k : Nat} {o : Obj} (h : New a b k o) (hb : w.heap.size ≤ a.heap.size) : w.heap.size ≤ k := by rw [h.num]; exact hb
theorem NE_ge {a b k : Nat} (h : a < k) (g : k ≤ b) : NE a b := by show _ ≠ _; omega
theorem yS {w w' : World} {a b : Nat} {o : Obj} (h : a < w.heap.size) (hN : New w w' b o) : NE a b := by have := hN.num; show _ ≠ _; omega
section ops
variable {r : Option Nat} {P : Program} {n : Nat} {Q : Post} {s : Fm} {w : World} {ops : Array Oper} {rest : List Oper}
variable {d : Option Tmp} {ty : TypeId} {pos : String} {af : Array Edge}
variable {t yt : TypeId} {X Y : Operand}
theorem nEq (x y : Nat) (ht : x = y → L r P n ops Q rest (s.put d (.bool true)) w) (hf : x ≠ y → L r P n ops Q rest (s.put d (.bool false)) w) (hx : s.ev n X = .int .i64 x := by kernel_rfl) (hy : s.ev n Y = .int .i64 y := by kernel_rfl) : L r P n ops Q (⟨d, .binOp .eql t X Y yt, ty, pos, af, none⟩ :: rest) s w :=
 vS .i64 x y (x = y) rfl (cmpN_eq x y) hx hy ht hf
theorem nNe (x y : Nat) (ht : x ≠ y → L r P n ops Q rest (s.put d (.bool true)) w) (hf : x = y → L r P n ops Q rest (s.put d (.bool false)) w) (hx : s.ev n X = .int .i64 x := by kernel_rfl) (hy : s.ev n Y = .int .i64 y := by kernel_rfl) : L r P n ops Q (⟨d, .binOp .neq t X Y yt, ty, pos, af, none⟩ :: rest) s w :=
 vS .i64 x y (x ≠ y) rfl (cmpN_ne x y) hx hy ht (fun h => hf (by omega))
theorem nLt (x y : Nat) (ht : x < y → L r P n ops Q rest (s.put d (.bool true)) w) (hf : y ≤ x → L r P n ops Q rest (s.put d (.bool false)) w) (hx : s.ev n X = .int .i64 x := by kernel_rfl) (hy : s.ev n Y = .int .i64 y := by kernel_rfl) : L r P n ops Q (⟨d, .binOp .lss t X Y yt, ty, pos, af, none⟩ :: rest) s w :=
 vS .i64 x y (x < y) rfl (cmpN_lt x y) hx hy ht (fun h => hf (by omega))
theorem nLe (x y : Nat) (ht : x ≤ y → L r P n ops Q rest (s.put d (.bool true)) w) (hf : y < x → L r P n ops Q rest (s.put d (.bool false)) w) (hx : s.ev n X = .int .i64 x := by kernel_rfl) (hy : s.ev n Y = .int .i64 y := by kernel_rfl) : L r P n ops Q (⟨d, .binOp .leq t X Y yt, ty, pos, af, none⟩ :: rest) s w :=
 vS .i64 x y (x ≤ y) rfl (qV x y) hx hy ht (fun h => hf (by omega))
theorem nGt (x y : Nat) (ht : y < x → L r P n ops Q rest (s.put d (.bool true)) w) (hf : x ≤ y → L r P n ops Q rest (s.put d (.bool false)) w) (hx : s.ev n X = .int .i64 x := by kernel_rfl) (hy : s.ev n Y = .int .i64 y := by kernel_rfl) : L r P n ops Q (⟨d, .binOp .gtr t X Y yt, ty, pos, af, none⟩ :: rest) s w :=
 vS .i64 x y (y < x) rfl (cmpN_gt x y) hx hy ht (fun h => hf (by omega))
theorem nGe (x y : Nat) (ht : y ≤ x → L r P n ops Q rest (s.put d (.bool true)) w) (hf : x < y → L r P n ops Q rest (s.put d (.bool false)) w) (hx : s.ev n X = .int .i64 x := by kernel_rfl) (hy : s.ev n Y = .int .i64 y := by kernel_rfl) : L r P n ops Q (⟨d, .binOp .geq t X Y yt, ty, pos, af, none⟩ :: rest) s w :=
 vS .i64 x y (y ≤ x) rfl (cmpN_ge x y) hx hy ht (fun h => hf (by omega))
theorem qM (k : IntKind) (x y : Int) (ht : x = y → L r P n ops Q rest (s.put d (.bool true)) w) (hf : x ≠ y → L r P n ops Q rest (s.put d (.bool false)) w) (hx : s.ev n X = .int k x := by kernel_rfl) (hy : s.ev n Y = .int k y := by kernel_rfl) : L r P n ops Q (⟨d, .binOp .eql t X Y yt, ty, pos, af, none⟩ :: rest) s w :=
 vS k x y (x = y) rfl (cmp_eq x y) hx hy ht hf
theorem zNe (k : IntKind) (x y : Int) (ht : x ≠ y → L r P n ops Q rest (s.put d (.bool true)) w) (hf : x = y → L r P n ops Q rest (s.put d (.bool false)) w) (hx : s.ev n X = .int k x := by kernel_rfl) (hy : s.ev n Y = .int k y := by kernel_rfl) : L r P n ops Q (⟨d, .binOp .neq t X Y yt, ty, pos, af, none⟩ :: rest) s w :=
 vS k x y (x ≠ y) rfl (xN x y) hx hy ht (fun h => hf (by omega))
theorem zLt (k : IntKind) (x y : Int) (ht : x < y → L r P n ops Q rest (s.put d (.bool true)) w) (hf : y ≤ x → L r P n ops Q rest (s.put d (.bool false)) w) (hx : s.ev n X = .int k x := by kernel_rfl) (hy : s.ev n Y = .int k y := by kernel_rfl) : L r P n ops Q (⟨d, .binOp .lss t X Y yt, ty, pos, af, none⟩ :: rest) s w :=
 vS k x y (x < y) rfl (cmp_lt x y) hx hy ht (fun h => hf (by omega))
theorem zLe (k : IntKind) (x y : Int) (ht : x ≤ y → L r P n ops Q rest (s.put d (.bool true)) w) (hf : y < x → L r P n ops Q rest (s.put d (.bool false)) w) (hx : s.ev n X = .int k x := by kernel_rfl) (hy : s.ev n Y = .int k y := by kernel_rfl) : L r P n ops Q (⟨d, .binOp .leq t X Y yt, ty, pos, af, none⟩ :: rest) s w :=
 vS k x y (x ≤ y) rfl (cmp_le x y) hx hy ht (fun h => hf (by omega))
theorem zGt (k : IntKind) (x y : Int) (ht : y < x → L r P n ops Q rest (s.put d (.bool true)) w) (hf : x ≤ y → L r P n ops Q rest (s.put d (.bool false)) w) (hx : s.ev n X = .int k x := by kernel_rfl) (hy : s.ev n Y = .int k y := by kernel_rfl) : L r P n ops Q (⟨d, .binOp .gtr t X Y yt, ty, pos, af, none⟩ :: rest) s w :=
 vS k x y (y < x) rfl (cmp_gt x y) hx hy ht (fun h => hf (by omega))
theorem zGe (k : IntKind) (x y : Int) (ht : y ≤ x → L r P n ops Q rest (s.put d (.bool true)) w) (hf : x < y → L r P n ops Q rest (s.put d (.bool false)) w) (hx : s.ev n X = .int k x := by kernel_rfl) (hy : s.ev n Y = .int k y := by kernel_rfl) : L r P n ops Q (⟨d, .binOp .geq t X Y yt, ty, pos, af, none⟩ :: rest) s w :=
 vS k x y (y ≤ x) rfl (cmp_ge x y) hx hy ht (fun h => hf (by omega))
theorem zw {op : Op} {g : Nat × Bool} (h : L r P n ops Q (⟨d, op, ty, pos, af, none⟩ :: rest) s w) (hg : Option.elim (yl ops n s g.1) false (fun b => b == g.2) = true := by kernel_rfl) : L r P n ops Q (⟨d, op, ty, pos, af, some g⟩ :: rest) s w := L_want hg h
theorem zs {op : Op} {g : Nat × Bool} (h : L r P n ops Q rest (s.put d undef) w) (hg : Option.elim (yl ops n s g.1) false (fun b => b == g.2) = false := by kernel_rfl) : L r P n ops Q (⟨d, op, ty, pos, af, some g⟩ :: rest) s w := L_skip hg h
theorem xS {c : Operand} (h : L r P n ops Q rest (s.put d (s.ev n X)) w) (hc : s.ev n c = .bool true := by kernel_rfl) : L r P n ops Q (⟨d, .pick c X Y, ty, pos, af, none⟩ :: rest) s w := L_pickT hc h
theorem xY {c : Operand} (h : L r P n ops Q rest (s.put d (s.ev n Y)) w) (hc : s.ev n c = .bool false := by kernel_rfl) : L r P n ops Q (⟨d, .pick c X Y, ty, pos, af, none⟩ :: rest) s w := L_pickF hc h
theorem zT {c : Operand} {x y : Code} (h : W r P n x Q s w) (hc : s.ev n c = .bool true := by kernel_rfl) : W r P n (.cond c x y) Q s w := W_true hc h
theorem zF {c : Operand} {x y : Code} (h : W r P n y Q s w) (hc : s.ev n c = .bool false := by kernel_rfl) : W r P n (.cond c x y) Q s w := W_false hc h
theorem zxo {id j : Nat} (h : Q (.exit j) s w) (hj : Nat.beq j id = false := by kernel_rfl) : blkQ id Q (.exit j) s w := blkQ_exit_other hj h
theorem zr {op : Op} (v : Value) (h : L r P n ops Q rest (s.put d v) w) (hrun : (execOp (s.ev n) ⟨d, op, ty, pos, af, none⟩).run P w = .ok (.value v) w := by kernel_rfl) (hd : notDefer op = true := by kernel_rfl) : L r P n ops Q (⟨d, op, ty, pos, af, none⟩ :: rest) s w := L_run v hrun hd h
theorem qW (b : Bool) (h : L r P n ops Q rest (s.put d (.bool (!b))) w) (hx : s.ev n X = .bool b := by kernel_rfl) : L r P n ops Q (⟨d, .unOp .not t X, ty, pos, af, none⟩ :: rest) s w := L_not b hx h
theorem xR (a b : Nat) (h : L r P n ops Q rest (s.put d (.int .i64 ((a + b : Nat) : Int))) w) (hb : a + b ≤ 9223372036854775807 := by omega) (hx : s.ev n X = .int .i64 a := by kernel_rfl) (hy : s.ev n Y = .int .i64 b := by kernel_rfl) : L r P n ops Q (⟨d, .binOp .add t X Y yt, ty, pos, af, none⟩ :: rest) s w := L_addN a b hb hx hy h
theorem zsb (a b : Nat) (h : L r P n ops Q rest (s.put d (.int .i64 ((a - b : Nat) : Int))) w) (hb : b ≤ a := by omega) (ha : a ≤ 9223372036854775807 := by omega) (hx : s.ev n X = .int .i64 a := by kernel_rfl) (hy : s.ev n Y = .int .i64 b := by kernel_rfl) : L r P n ops Q (⟨d, .binOp .sub t X Y yt, ty, pos, af, none⟩ :: rest) s w := L_subN a b hb ha hx hy h
theorem zsl {ats : Array TypeId} (t : TypeId) (a : List UInt8) (h : L r P n ops Q rest (s.put d (.int .i64 (a.length : Nat))) w) (hat : ats[0]? = some t := by rfl) (hu : P.underlying t = some .string := by kernel_rfl) (hx : s.ev n X = S a := by kernel_rfl) : L r P n ops Q (⟨d, .call ⟨.builtin .len, #[X], ats⟩, ty, pos, af, none⟩ :: rest) s w := L_slen t a hat hu hx h
theorem zln {ats : Array TypeId} {E m : Nat} {v : Value} (hu : P.underlying t = some (.slice E)) (hv : ∃ a c, v = .slice a m c) (h : L r P n ops Q rest (s.put d (.int .i64 (m : Nat))) w) (hat : ats[0]? = some t := by rfl) (hx : s.ev n X = v := by kernel_rfl) : L r P n ops Q (⟨d, .call ⟨.builtin .len, #[X], ats⟩, ty, pos, af, none⟩ :: rest) s w := L_len t E m v hat hu hv hx h
theorem zc {op : Op} {f : FuncId} {args : List Value} {R : Value → World → Prop} (hc : Calls P f args.toArray w (Ret R)) (h : ∀ v w', R v w' → L r P n ops Q rest (s.put d v) w') (hrun : (execOp (s.ev n) ⟨d, op, ty, pos, af, none⟩).run P w = .ok (.enter f args.toArray) w := by kernel_rfl) (hd : notDefer op = true := by kernel_rfl) : L r P n ops Q (⟨d, op, ty, pos, af, none⟩ :: rest) s w := L_call f args hrun hd hc h
theorem zN {op : Op} (l : List Value) (E : TypeId) (h : ∀ b w', New w w' b (.cells l.toArray E (0, 0)) → L r P n ops Q rest (s.put d (.pointer (some ⟨b, 0, none⟩))) w') (hrun : (execOp (s.ev n) ⟨d, op, ty, pos, af, none⟩).run P w = .ok (.value (.pointer (some ⟨w.heap.size, 0, none⟩))) (w.alloc (.cells l.toArray E (0, 0))) := by kernel_rfl) (hd : notDefer op = true := by kernel_rfl) : L r P n ops Q (⟨d, op, ty, pos, af, none⟩ :: rest) s w :=
 L_new (fun b => .pointer (some ⟨b, 0, none⟩)) _ hrun hd h
theorem zM {op : Op} (m : Nat) (l : List Value) (E : TypeId) (h : ∀ b w', New w w' b (.cells l.toArray E (0, 0)) → L r P n ops Q rest (s.put d (.slice (some ⟨b, 0, none⟩) m m)) w') (hrun : (execOp (s.ev n) ⟨d, op, ty, pos, af, none⟩).run P w = .ok (.value (.slice (some ⟨w.heap.size, 0, none⟩) m m)) (w.alloc (.cells l.toArray E (0, 0))) := by kernel_rfl) (hd : notDefer op = true := by kernel_rfl) : L r P n ops Q (⟨d, op, ty, pos, af, none⟩ :: rest) s w :=
 L_new (fun b => .slice (some ⟨b, 0, none⟩) m m) _ hrun hd h
theorem zO {b : Nat} {cs : List Value} {E : TypeId} {fz : Nat × Nat} {v : Value} (o : Nat) (hb : w.heap[b]? = some (.cells cs.toArray E fz)) (hv : cs[o]? = some v) (h : L r P n ops Q rest (s.put d v) w) (hx : s.ev n X = .pointer (some ⟨b, o, none⟩) := by kernel_rfl) (ha : (isAgg t).run P w = .ok false w := by kernel_rfl) : L r P n ops Q (⟨d, .load t X, ty, pos, af, none⟩ :: rest) s w :=
 wT b o v hx ha (zQ hb (by simpa using hv)) h
theorem zOW {b : Nat} {cs : List Value} {E : TypeId} {fz : Nat × Nat} (hb : w.heap[b]? = some (.cells cs.toArray E fz)) (h : L r P n ops Q rest (s.put d (.agg cs.toArray)) w) (hx : s.ev n X = .pointer (some ⟨b, 0, none⟩) := by kernel_rfl) (ha : (isAgg t).run P w = .ok true w := by kernel_rfl) (hz : (sizeOf t).run P w = .ok cs.length w := by kernel_rfl) : L r P n ops Q (⟨d, .load t X, ty, pos, af, none⟩ :: rest) s w :=
 L_loadA b 0 cs hx ha hz (xJ hb) h
theorem zFO {b : Nat} {cs : List Value} {E : TypeId} {fz : Nat × Nat} {v : Value} {op : Op} {d1 : Tmp} {d2 : Option Tmp} {ty2 : TypeId} {pos2 : String} {af2 : Array Edge} (o : Nat) (hb : w.heap[b]? = some (.cells cs.toArray E fz)) (hv : cs[o]? = some v)
  (h : L r P n ops Q rest ((s.put (some d1) (.pointer (some ⟨b, o, none⟩))).put d2 v) w)
  (hrun : (execOp (s.ev n) ⟨some d1, op, ty, pos, af, none⟩).run P w = .ok (.value (.pointer (some ⟨b, o, none⟩))) w := by kernel_rfl) (hd : notDefer op = true := by kernel_rfl)
  (hlt : Nat.blt d1 n = true := by kernel_rfl) (ha : (isAgg t).run P w = .ok false w := by kernel_rfl) : L r P n ops Q (⟨some d1, op, ty, pos, af, none⟩ :: ⟨d2, .load t (.tmp d1), ty2, pos2, af2, none⟩ :: rest) s w :=
 L_run _ hrun hd (wT b o v (by simp [Fm.ev, Fm.put, hlt]) ha (zQ hb (by simpa using hv)) h)
theorem z1 {b : Nat} {cs : List Value} {E : TypeId} (o : Nat) (v : Value) (cs' : List Value) (hb : w.heap[b]? = some (.cells cs.toArray E (0, 0)))
  (h : ∀ w', Wrote w w' b (.cells cs'.toArray E (0, 0)) → L r P n ops Q rest (s.put d undef) w') (h1 : v.oneCell' = true := by rfl) (hx : s.ev n X = .pointer (some ⟨b, o, none⟩) := by kernel_rfl) (hy : s.ev n Y = v := by kernel_rfl) (hz : (sizeOf t).run P w = .ok 1 w := by kernel_rfl) (ho : Nat.blt o cs.length = true := by rfl) (hcs : cs.set o v = cs' := by rfl) : L r P n ops Q (⟨d, .store t X Y, ty, pos, af, none⟩ :: rest) s w :=
 vE b o v cs cs' E hx hy h1 hz hb (by rw [blt_iff] at ho; simpa using ho) hcs h
theorem wE {b : Nat} {cs : List Value} {E : TypeId} (vs : List Value) (hb : w.heap[b]? = some (.cells cs.toArray E (0, 0)))
  (h : ∀ w', Wrote w w' b (.cells vs.toArray E (0, 0)) → L r P n ops Q rest (s.put d undef) w') (h1 : vs.all (·.oneCell') = true := by rfl) (hx : s.ev n X = .pointer (some ⟨b, 0, none⟩) := by kernel_rfl) (hy : s.ev n Y = .agg vs.toArray := by kernel_rfl) (hz : (sizeOf t).run P w = .ok vs.length w := by kernel_rfl) (ho : Nat.beq vs.length cs.length = true := by kernel_rfl) : L r P n ops Q (⟨d, .store t X Y, ty, pos, af, none⟩ :: rest) s w :=
 qS b 0 vs cs vs E hx hy h1 hz hb (by have := Nat.eq_of_beq_eq_true ho; simp [this]) (by have := Nat.eq_of_beq_eq_true ho; simp [this]) h
theorem zE {α : Type} {enc : α → List Value} {v : Value} {xs : List α} {x : α} {u : Value} {I : Operand} {T T2 E ke by_ kf : Nat} {d1 d2 : Tmp} {d3 : Option Tmp} {ty2 ty3 : TypeId} {pos2 pos3 : String} {af2 af3 : Array Edge}
  (hr : Rd w enc v xs) (he : Elem P T E ke by_) (i : Nat) (hi : xs[i]? = some x) (j : Nat) (hu : (enc x)[j]? = some u)
  (h : ∀ p q : Value, L r P n ops Q rest (((s.put (some d1) p).put (some d2) q).put d3 u) w)
  (hk : ∀ x, (enc x).length = ke := by exact fun _ => rfl) (hx : s.ev n X = v := by kernel_rfl) (hii : s.ev n I = .int .i64 i := by kernel_rfl)
  (hf : ∀ g o, (execOp ((s.put (some d1) (.pointer (some ⟨g, o, none⟩))).ev n) ⟨some d2, .fieldAddr T2 (.tmp d1) kf, ty2, pos2, af2, none⟩).run P w = .ok (.value (.pointer (some ⟨g, o + j, none⟩))) w := by exact fun _ _ => by kernel_rfl)
  (hlt : Nat.blt d2 n = true := by kernel_rfl) (ha : (isAgg t).run P w = .ok false w := by kernel_rfl) :
  L r P n ops Q (⟨some d1, .indexAddr T X I, ty, pos, af, none⟩ :: ⟨some d2, .fieldAddr T2 (.tmp d1) kf, ty2, pos2, af2, none⟩ :: ⟨d3, .load t (.tmp d2), ty3, pos3, af3, none⟩ :: rest) s w := by
 obtain ⟨g, off, hl, hc⟩ := hr.at hk hi
 refine xO (k := .i64) v i _ g off he hl (List.getElem?_eq_some_iff.1 hi).1 hx hii (L_run _ (hf g _) rfl ?_)
 exact wT g (off + i * ke + j) u (by simp [Fm.ev, Fm.put, hlt]) ha (hc j u hu) (h _ _)
theorem zE1 {α : Type} {enc : α → List Value} {v : Value} {xs : List α} {x : α} {u : Value} {I : Operand} {T E by_ : Nat} {d1 : Tmp} {d3 : Option Tmp} {ty3 : TypeId} {pos3 : String} {af3 : Array Edge}
  (hr : Rd w enc v xs) (he : Elem P T E 1 by_) (i : Nat) (hi : xs[i]? = some x) (hu : (enc x)[0]? = some u)
  (h : ∀ p : Value, L r P n ops Q rest ((s.put (some d1) p).put d3 u) w)
  (hk : ∀ x, (enc x).length = 1 := by exact fun _ => rfl) (hx : s.ev n X = v := by kernel_rfl) (hii : s.ev n I = .int .i64 i := by kernel_rfl)
  (hlt : Nat.blt d1 n = true := by kernel_rfl) (ha : (isAgg t).run P w = .ok false w := by kernel_rfl) :
  L r P n ops Q (⟨some d1, .indexAddr T X I, ty, pos, af, none⟩ :: ⟨d3, .load t (.tmp d1), ty3, pos3, af3, none⟩ :: rest) s w := by
 obtain ⟨g, off, hl, hc⟩ := hr.at hk hi
 refine xO (k := .i64) v i _ g off he hl (List.getElem?_eq_some_iff.1 hi).1 hx hii ?_
 exact wT g (off + i * 1) u (by simp [Fm.ev, Fm.put, hlt]) ha (hc 0 u hu) (h _)
theorem zEA {α : Type} {enc : α → List Value} {v : Value} {xs : List α} {x : α} {I : Operand} {T E ke by_ : Nat} {d1 : Tmp} {d3 : Option Tmp} {ty3 : TypeId} {pos3 : String} {af3 : Array Edge}
  (hr : Rd w enc v xs) (he : Elem P T E ke by_) (i : Nat) (hi : xs[i]? = some x) (us : List Value) (hu : enc x = us)
  (h : ∀ p : Value, L r P n ops Q rest ((s.put (some d1) p).put d3 (.agg us.toArray)) w)
  (hk : ∀ x, (enc x).length = ke := by exact fun _ => rfl) (hx : s.ev n X = v := by kernel_rfl) (hii : s.ev n I = .int .i64 i := by kernel_rfl)
  (hlt : Nat.blt d1 n = true := by kernel_rfl) (ha : (isAgg t).run P w = .ok true w := by kernel_rfl) (hz : (sizeOf t).run P w = .ok us.length w := by kernel_rfl) :
  L r P n ops Q (⟨some d1, .indexAddr T X I, ty, pos, af, none⟩ :: ⟨d3, .load t (.tmp d1), ty3, pos3, af3, none⟩ :: rest) s w := by
 subst hu
 obtain ⟨g, off, hl, hc⟩ := hr.at hk hi
 refine xO (k := .i64) v i _ g off he hl (List.getElem?_eq_some_iff.1 hi).1 hx hii ?_
 exact L_loadA g (off + i * ke) (enc x) (by simp [Fm.ev, Fm.put, hlt]) ha hz hc (h _)
end ops
def rvs (n : Nat) (s : Fm) (fn : Func) : List Value := fn.results.toList.map fun | .tmp t => s.ev n (.tmp t) | _ => undef
def rOk (fn : Func) : Bool := fn.results.toList.all fun | .tmp _ => true | _ => false
section
variable {P : Program} {n : Nat} {s : Fm} {w : World}
theorem res_vs : ∀ (l : List ResultVar), (l.all fun | .tmp _ => true | _ => false) = true → resOk P n s w l (l.map fun | .tmp t => s.ev n (.tmp t) | _ => undef)
 | [], _ => trivial
 | .tmp t :: l, h => ⟨rfl, res_vs l (by simpa using h)⟩
 | .cell _ _ :: l, h => by simp at h
theorem yK {fn : Func} {R : Value → World → Prop} (vs : List Value) (h : R (match vs with | [v] => v | _ => .tuple vs.toArray) w) (hv : rvs n s fn = vs := by kernel_rfl) (hr : rOk fn = true := by kernel_rfl) (hd : s.ds = [] := by rfl) : endQ P fn n R .ret s w := by
 subst hv
 have hh : resOk P n s w fn.results.toList (rvs n s fn) := res_vs _ hr
 refine xP fn.results.toList (rvs n s fn) (by simp) hd hh ?_
 clear hr
 generalize rvs n s fn = vs at h hh ⊢
 cases vs with
 | nil => exact h
 | cons v l => cases l <;> exact h
theorem znrm {fn : Func} {R : Value → World → Prop} (vs : List Value) (h : R (match vs with | [v] => v | _ => .tuple vs.toArray) w) (hv : rvs n s fn = vs := by kernel_rfl) (hr : rOk fn = true := by kernel_rfl) (hd : s.ds = [] := by rfl) : endQ P fn n R .normal s w := by
 subst hv
 have hh : resOk P n s w fn.results.toList (rvs n s fn) := res_vs _ hr
 refine end_normal fn.results.toList (rvs n s fn) (by simp) hd hh ?_
 clear hr
 generalize rvs n s fn = vs at h hh ⊢
 cases vs with
 | nil => exact h
 | cons v l => cases l <;> exact h
end
def putS (s : Fm) : List Nat → List Value → Fm
  | d :: ds, v :: vs => putS (s.put (some d) v) ds vs
  | _, _ => s
theorem W_setL {r : Option Nat} {P : Program} {n : Nat} {c : Code} {Q : Post} {w : World} : ∀ (ts : List Nat) (vs : List Value) (s : Fm), ts.map s.f = vs → W r P n c Q (putS s ts vs) w → W r P n c Q s w
 | [], [], _, _, h => h
 | t :: ts, v :: vs, s, he, h => by
  simp only [List.map_cons, List.cons.injEq] at he
  refine W_set t v he.1 ?_
  refine W_setL ts vs _ ?_ h
  obtain ⟨b, a⟩ := he
  rw [← a]
  refine List.map_congr_left fun i _ => ?_
  show (bif Nat.beq i t then v else s.f i) = s.f i
  cases hq : Nat.beq i t with
  | false => rfl
  | true => rw [Nat.eq_of_beq_eq_true hq]; exact b.symm
 | [], _ :: _, _, he, _ => by simp at he
 | _ :: _, [], _, he, _ => by simp at he
theorem yZ {r : Option Nat} {P : Program} {n : Nat} {c : Code} {Q : Post} {s : Fm} {w : World} {ts : List Nat} {vs : List Value} (h : ts.map s.f = vs) (k : W r P n c Q (putS s ts vs) w) : W r P n c Q s w := W_setL ts vs s h k
end Go.FK
end

/- === FKar === -/
section
/- FKar: more short laws for the walks' texts. My own text. -/
namespace Go.FK
open Go Go.RowKit
theorem zh {p : Prop} (h : p := by simp only [arithZ]; omega) : p := h
theorem zi {p : Prop} (h : p := by simp) : p := h
theorem zj {α : Sort _} {p : α → Prop} (h : ∀ x, p x := by exact fun _ => rfl) : ∀ x, p x := h
theorem zf {α : Sort _} {p : α → Prop} (h : ∀ x, p x := by intro _; kernel_rfl) : ∀ x, p x := h
theorem zg {α : Sort _} {β : α → Sort _} {p : (x : α) → β x → Prop} (h : ∀ x y, p x y := by intro _ _; kernel_rfl) : ∀ x y, p x y := h
theorem e6 {a b : Int} (h : a = b) : Value.int .i64 a = Value.int .i64 b := by rw [h]
theorem e3 {a b : Int} (h : a = b) : Value.int .i32 a = Value.int .i32 b := by rw [h]
theorem eu {a b : Int} (h : a = b) : Value.int .u8 a = Value.int .u8 b := by rw [h]
theorem e8 {a b : Int} (h : a = b) : Value.int .i8 a = Value.int .i8 b := by rw [h]
theorem eb {a b : Bool} (h : a = b) : Value.bool a = Value.bool b := by rw [h]
section
variable {r : Option Nat} {P : Program} {n : Nat} {Q Q2 : Post} {s : Fm} {w : World} {ops : Array Oper}
theorem wO (k : Nat) {f : FuncId} {fn : Func} {c : Code} {args : List Value} {R : Value → World → Prop} (hf : P.funcs[f]? = some fn) (hb : fn.body = some c) (h : W none P k c (endQ P fn k R) ⟨fun i => args.getD i undef, []⟩ w) (hn : fn.ntmps = k := by kernel_rfl) (hk : Nat.ble args.length k = true := by kernel_rfl) : Calls P f args.toArray w (Ret R) :=
 enter hf hb hn hk h
theorem nQ {K : Fm → World → Prop} (h : K s w) : L r P n ops (thenQ K Q) [] s w := zS (zD h)
theorem nW {x y : Code} (h : W r P n x (thenQ (W r P n y Q) Q) s w) : L r P n ops (thenQ (W r P n (.seq x y) Q) Q2) [] s w := zS (zD (yC h))
theorem wR {id : Nat} {l : List Oper} {y : Code} (h : L r P n l.toArray (thenQ (W r P n y Q) Q) l s w) : W r P n (.seq (.region id l.toArray false) y) Q s w := yC (zY h)
theorem nR {id : Nat} {l : List Oper} {y : Code} (h : L r P n l.toArray (thenQ (W r P n y Q) Q) l s w) : L r P n ops (thenQ (W r P n (.seq (.region id l.toArray false) y) Q) Q2) [] s w := zS (zD (yC (zY h)))
end
section
variable {P : Program} {n : Nat} {Q : Post} {s : Fm} {w : World} {ops : Array Oper} {S : World → Prop} {fuel : Nat} {listed : Array Bool}
theorem ht (i : Nat) {o : Oper} (hi : ops[i]? = some o) (v : Value) (hS : S w) (hrun : RunOk P n o s S v) (h : Lh P n ops Q S fuel (listed.setIfInBounds i true) (s.put o.dst v) w)
  (hs : Region.noSelect ops = true := by kernel_rfl) (hf : Region.free .any ops listed i = true := by kernel_rfl) (hr : (Region.ready .any ops listed).contains i = true := by kernel_rfl) (hw : wantB ops n s o.guard = true := by kernel_rfl)
  (hq : NoPanic Q := by with_reducible repeat first | exact zG | exact yY | exact qJ | apply zA | apply zC | apply noPanic_jmp) : Lh P n ops Q S (fuel + 1) listed s w :=
 H_take i v hi hs hf hr hq hS hw hrun h
theorem hp (i : Nat) {o : Oper} (hi : ops[i]? = some o) (v : Value) (hS : S w) (h : Lh P n ops Q S fuel (listed.setIfInBounds i true) (s.put o.dst v) w)
  (hs : Region.noSelect ops = true := by kernel_rfl) (hf : Region.free .any ops listed i = true := by kernel_rfl) (hr : (Region.ready .any ops listed).contains i = true := by kernel_rfl) (hw : wantB ops n s o.guard = true := by kernel_rfl)
  (hq : NoPanic Q := by with_reducible repeat first | exact zG | exact yY | exact qJ | apply zA | apply zC | apply noPanic_jmp) (hrun : RunOk P n o s S v := by intro _ _; kernel_rfl) : Lh P n ops Q S (fuel + 1) listed s w :=
 H_take i v hi hs hf hr hq hS hw hrun h
theorem ip (i : Nat) {o : Oper} (hi : ops[i]? = some o) (v : Value) (h : Li P n ops Q fuel (listed.setIfInBounds i true) (s.put o.dst v) w)
  (hs : Region.noSelect ops = true := by kernel_rfl) (hf : Region.free .any ops listed i = true := by kernel_rfl) (hr : (Region.ready .any ops listed).contains i = true := by kernel_rfl) (hc : noCall o.op = true := by kernel_rfl) (hw : wantB ops n s o.guard = true := by kernel_rfl)
  (hq : NoPanic Q := by with_reducible repeat first | exact zG | exact yY | exact qJ | apply zA | apply zC | apply noPanic_jmp) (hrun : ∀ w', (execOp (s.ev n) o).run P w' = .ok (.value v) w' := by intro _; kernel_rfl) : Li P n ops Q (fuel + 1) listed s w :=
 I_take i v hi hs hf hr hc hq hw hrun h
end
section
variable {P : Program} {n : Nat} {s : Fm} {w : World} {ops : Array Oper} {rest : List Oper} {K : Fm → Prop} {d : Option Tmp} {ty : TypeId} {pos : String} {af : Array Edge} {c X Y : Operand}
theorem qw {op : Op} {g : Nat × Bool} (h : Lq P n ops w K (⟨d, op, ty, pos, af, none⟩ :: rest) s) (hg : Option.elim (yl ops n s g.1) false (fun b => b == g.2) = true := by kernel_rfl) : Lq P n ops w K (⟨d, op, ty, pos, af, some g⟩ :: rest) s := Lq_want hg h
theorem qs {op : Op} {g : Nat × Bool} (h : Lq P n ops w K rest (s.put d undef)) (hg : Option.elim (yl ops n s g.1) false (fun b => b == g.2) = false := by kernel_rfl) : Lq P n ops w K (⟨d, op, ty, pos, af, some g⟩ :: rest) s := Lq_skip hg h
theorem qT (h : Lq P n ops w K rest (s.put d (s.ev n X))) (hc : s.ev n c = .bool true := by kernel_rfl) : Lq P n ops w K (⟨d, .pick c X Y, ty, pos, af, none⟩ :: rest) s := Lq_pickT hc h
theorem qF (h : Lq P n ops w K rest (s.put d (s.ev n Y))) (hc : s.ev n c = .bool false := by kernel_rfl) : Lq P n ops w K (⟨d, .pick c X Y, ty, pos, af, none⟩ :: rest) s := Lq_pickF hc h
theorem qr {op : Op} (v : Value) (h : Lq P n ops w K rest (s.put d v)) (hrun : ∀ w', (execOp (s.ev n) ⟨d, op, ty, pos, af, none⟩).run P w' = .ok (.value v) w' := by intro _; kernel_rfl) : Lq P n ops w K (⟨d, op, ty, pos, af, none⟩ :: rest) s := yD v hrun h
end
end Go.FK
end

/- === Wllines === -/
section
/- Walks, written by my program walk.py out of the specification llines.py: each theorem says what one function returns and that it leaves memory as it was. -/
namespace Go.Proofs.YtddnhlobnembaaaGreatDoor
open Go Go.RowKit Go.FK _root_.Go.Proofs.Tryz
set_option maxHeartbeats 4000000
set_option maxRecDepth 100000
theorem el88 : Elem Tryz.prog 88 9 1 16 := ⟨underlying88, zk, rfl⟩
theorem el126 : Elem Tryz.prog 126 129 3 24 := ⟨underlying126, zk, rfl⟩
theorem wZ (s : List UInt8) (c : Int) (w : World) :
  Calls Tryz.prog 99 #[(S s), (U8 c)] w (Ret fun v w' => v = (I6 (ibF s c)) ∧ Below w.heap.size w w') :=
 indexByte_contract Tryz.strings_IndexByte s c w
theorem wD (s : List UInt8) (p : List UInt8) (w : World) :
  Calls Tryz.prog 72 #[(S s), (S p)] w (Ret fun v w' => v = (.bool (hpB s p)) ∧ Below w.heap.size w w') :=
 hasPrefix_contract Tryz.strings_HasPrefix s p w
theorem c_stringslite_Index (s : List UInt8) (sep : List UInt8) (w : World) (h1 : sep.length = 1) :
  Calls Tryz.prog 116 #[(S s), (S sep)] w (Ret fun v w' => v = (I6 (Lib.index s sep)) ∧ Below w.heap.size w w') :=
 index1_contract Tryz.stringslite_Index_one s sep w h1
theorem c_stringslite_Cut (s : List UInt8) (sep : List UInt8) (w : World) (h1 : sep.length = 1) (hs : s.length ≤ 1073741824) :
  Calls Tryz.prog 101 #[(S s), (S sep)] w (Ret fun v w' => v = (.tuple #[(S ((Lib.cut s sep).1)), (S ((Lib.cut s sep).2.1)), (.bool ((Lib.cut s sep).2.2))]) ∧ Below w.heap.size w w') := by
 refine wO 23 func101 rfl ?_
 have a := Below.refl w.heap.size w
 refine wR (zK (zK (zK (nW (wR (zJ (zJ (zc (c_stringslite_Index s sep _ zo) ?_))))))))
 rintro _ d ⟨rfl, b⟩
 have := ixl_range s sep
 refine zK (nR (zJ (zGe .i64 (Lib.index s sep) 0 ?_ ?_)))
 ·intro e
  refine nQ (zT (yC (yP zk zk (zU (zU (Lq_ssto s (((Lib.index s sep)).toNat) underlying9 zk (toNat_val (Lib.index s sep) .i64 zk zo) zo (zU (zU (zU (Lq_slen 9 sep rfl underlying9 zk (Lq_arith (Lib.index s sep) (((sep).length : Nat) : Int) ((Lib.index s sep) + (((sep).length : Nat) : Int)) rfl zk zk (xM _ zh zh) (Lq_ssfrom s ((((Lib.index s sep) + (((sep).length : Nat) : Int))).toNat) underlying9 zk (toNat_val ((Lib.index s sep) + (((sep).length : Nat) : Int)) .i64 zk zo) zo (xH (xH (xH (yG ?_))))))))))))))))
  intro f c
  have a := (a.tr b).tr c
  exact zD (yA (zI (yK [(S (List.take (((Lib.index s sep)).toNat) s)), (S (List.drop ((((Lib.index s sep) + (((sep).length : Nat) : Int))).toNat) s)), (.bool true)] ⟨wK (congrArg S (by (rw [cut_some zo]; done))) (congrArg S (by (rw [cut_some zo]; done))) (eb (by (rw [cut_some zo]; done))), a⟩)))
 intro g
 have a := a.tr b
 exact nQ (zF (zW (zD (wR (zJ (zK (zK (zK (nQ (yA (yK [(S s), (S []), (.bool false)] ⟨wK (congrArg S (by (rw [cut_none zo]; done))) (congrArg S (by (rw [cut_none zo]; done))) (eb (by (rw [cut_none zo]; done))), a⟩)))))))))))
theorem c_strings_Cut (s : List UInt8) (sep : List UInt8) (w : World) (h1 : sep.length = 1) (hs : s.length ≤ 1073741824) :
  Calls Tryz.prog 70 #[(S s), (S sep)] w (Ret fun v w' => v = (.tuple #[(S ((Lib.cut s sep).1)), (S ((Lib.cut s sep).2.1)), (.bool ((Lib.cut s sep).2.2))]) ∧ Below w.heap.size w w') := by
 refine wO 13 func70 rfl ?_
 have a := Below.refl w.heap.size w
 refine wR (zK (zK (zK (nR (zJ (zJ (zc (c_stringslite_Cut s sep _ zo zo) ?_)))))))
 rintro _ c ⟨rfl, b⟩
 have := qI s sep
 have a := a.tr b
 exact zr (S ((Lib.cut s sep).1)) (zr (S ((Lib.cut s sep).2.1)) (zr (.bool ((Lib.cut s sep).2.2)) (zK (zK (zK (nQ (yA (yK [(S ((Lib.cut s sep).1)), (S ((Lib.cut s sep).2.1)), (.bool ((Lib.cut s sep).2.2))] ⟨rfl, a⟩))))))))
theorem c_strings_Trim (s : List UInt8) (c : List UInt8) (w : World) (ha : c.all (fun b => decide (b.toNat < 128)) = true) (hs : s.length ≤ 1073741824) (hc : c.length ≤ 1073741824) :
  Calls Tryz.prog 102 #[(S s), (S c)] w (Ret fun v w' => v = (S (Lib.trimS s c)) ∧ Below w.heap.size w w') :=
 trim_contract (fun s c w hs hcs ha => Go.Proofs.Any.strings_Trim_laid Tryz.lays160 zk s c w hs hcs ha) s c w ha hs hc
theorem qU (s : List UInt8) (w : World) (hs : s.length ≤ 1073741824) :
  Calls Tryz.prog 71 #[(S s)] w (Ret fun v w' => v = (S (trmF s)) ∧ Below w.heap.size w w') := by
 refine wO 5 func71 rfl ?_
 have a := Below.refl w.heap.size w
 refine wR (zK (nR (zJ (zc (c_strings_Trim s ([32, 9] : List UInt8) _ (by decide) (by first | omega | decide) (by first | omega | decide)) ?_))))
 rintro _ c ⟨rfl, b⟩
 have a := a.tr b
 exact zK (nQ (yA (yK [(S (Lib.trimS s ([32, 9] : List UInt8)))] ⟨congrArg S (by rfl), a⟩)))
theorem c_lines_wrong (s : List UInt8) (p : Nat) (r : Int) (w : World) (hp : p ≤ s.length) :
  Calls Tryz.prog 100 #[(S s), (N6 p), (I3 r)] w (Ret fun v w' => v = (.bool (wrongB s p r)) ∧ Below w.heap.size w w') := by
 refine wO 18 func100 rfl ?_
 have a := Below.refl w.heap.size w
 refine wR (zK (nR (zJ (qM .i32 r 65533 ?_ ?_))))
 ·intro d
  refine zJ (zw (zJ (zw (zJ (zw (L_ssfrom s p underlying9 zk ⟨.i64, zk⟩ zo (zw (zJ (zw (L_runeStr r zk underlying21 underlying9 (zw (zc (wD (List.drop p s) (encL [r]) _ ) ?_))))))))))))
  rintro _ g ⟨rfl, b⟩
  refine yN (hpB (List.drop p s) (encL [r])) ?_ ?_
  ·intro e
   replace a := a.tr b
   exact zw (qW true (xS (zK (nQ (yA (yK [(.bool false)] ⟨eb (by (unfold wrongB; simp_all; done)), a⟩))))))
  intro c
  replace a := a.tr b
  exact zw (qW false (xS (zK (nQ (yA (yK [(.bool true)] ⟨eb (by (unfold wrongB; simp_all; done)), a⟩))))))
 intro f
 exact zJ (zs (zs (zs (zs (zs (zs (zs (xY (zK (nQ (yA (yK [(.bool false)] ⟨eb (by (simp [wrongB, *]; done)), a⟩))))))))))))
theorem c_lines_Check (s : List UInt8) (w : World) (hs : s.length ≤ 1073741824) :
  Calls Tryz.prog 68 #[(S s)] w (Ret fun v w' => v = (.tuple #[(N6 ((chkF s).1)), (I6 ((chkF s).2))]) ∧ Below w.heap.size w w') := by
 refine wO 35 func68 rfl ?_
 have g := Below.refl w.heap.size w
 refine wR (zK (zK (nR (zK (nW (wR (zJ (L_range s underlying9 zk ?_))))))))
 intro r w2 o
 have e := o.ge g.size
 have c := o.here
 refine nQ (yF ?_)
 have g := g.tr o.below
 refine xG (fun m s0 w0 => ∃ (pos : Nat) (n : Nat), (m = s.length - pos) ∧ (s0.ds = []) ∧ ([0, 8, 4].map s0.f = [(S s), (pt r 0), (N6 n)]) ∧ (w0.heap[r]? = some (.stringIter ⟨(s).toArray⟩ pos)) ∧ (Below w.heap.size w w0) ∧ (pos ≤ s.length) ∧ (n ≤ pos) ∧ (n ≤ 4096) ∧ (chkL (charsFrom s pos) n = chkF s)) _ ⟨0, 0, rfl, zk, zk, c, g, by omega, by omega, by omega, rfl⟩ ?_
 rintro m4 s5 w6 ⟨pos, n, hm, i, t, c, g, i1, i2, i4, k⟩
 refine yZ t (wR ?_)
 rcases Nat.lt_or_ge pos (s).length with a | l
 ·refine L_next s r pos zk c a ?_
  intro d w7 b j
  have c := j.here
  have := dec_pos s pos; have := dec_fits s pos a; have := dec_le s pos
  have q : 0 ≤ d := by omega
  have p : d ≤ 2147483647 := by omega
  refine zr (.bool true) (nW (zT (zW (zD (yF (wR (zr (N6 pos) (zr (I3 d) (zK (zK (nW (yF (wR (zJ (nEq n 4096 ?_ ?_)))))))))))))))
  ·intro h9
   have g := g.trans (j.below e)
   exact zK (nQ (zT (wR (zJ (zK (zK (nQ (yA (zR (zI (zR (zI (zR (zI (yK [(N6 n), (I6 32)] (hd := i) ⟨xQ (congrArg (fun x : Nat => Value.int .i64 (x : Int)) (by (rw [← k, (by assumption : n = 4096), chk_wide a]; done))) (e6 (by (rw [← k, (by assumption : n = 4096), chk_wide a]; done))), g⟩)))))))))))))))
  intro ag
  refine zK (nQ (zF (wR (zJ (zJ (zJ (zc (c_lines_wrong s pos d _ zo) ?_)))))))
  rintro _ ae ⟨rfl, h⟩
  refine yN (wrongB s pos d) ?_ ?_
  ·intro ai
   have g := (g.trans (j.below e)).tr h
   exact zK (nQ (zT (wR (zJ (zK (zK (nQ (yA (zR (zI (zR (zI (zR (zI (yK [(N6 n), (I6 30)] (hd := i) ⟨xQ (congrArg (fun x : Nat => Value.int .i64 (x : Int)) (by (rw [← k, chk_wrong (n := n) a zo (by rw [← b]; assumption)]; done))) (e6 (by (rw [← k, chk_wrong (n := n) a zo (by rw [← b]; assumption)]; done))), g⟩)))))))))))))))
  intro aa
  refine zK (nQ (zF (yC (wR (zJ (zLt .i32 d 32 ?_ ?_))))))
  ·intro af
   refine zJ (zw (zJ (zw (zNe .i32 d 9 ?_ ?_))))
   ·intro u
    have g := (g.trans (j.below e)).tr h
    exact xS (zK (nQ (zT (zW (zD (zT (wR (zJ (zK (zK (nQ (yA (zR (zI (zR (zI (zR (zI (yK [(N6 n), (I6 31)] (hd := i) ⟨xQ (congrArg (fun x : Nat => Value.int .i64 (x : Int)) (by (rw [← k, chk_ctl (n := n) a zo (by rw [← b]; assumption) zo]; done))) (e6 (by (rw [← k, chk_ctl (n := n) a zo (by rw [← b]; assumption) zo]; done))), g⟩)))))))))))))))))))
   intro z
   refine xS (zK (nQ (zF (zY (zJ (qM .i32 d 127 ?_ ?_))))))
   ·intro ab
    have g := (g.trans (j.below e)).tr h
    exact zK (nQ (zT (wR (zJ (zK (zK (nQ (yA (zR (zI (zR (zI (zR (zI (yK [(N6 n), (I6 31)] (hd := i) ⟨xQ (congrArg (fun x : Nat => Value.int .i64 (x : Int)) (by (rw [← k, chk_ctl (n := n) a zo (by rw [← b]; assumption) zo]; done))) (e6 (by (rw [← k, chk_ctl (n := n) a zo (by rw [← b]; assumption) zo]; done))), g⟩)))))))))))))))
   intro ah
   refine zK (nQ (zF (zW (zL (zD (zY (zJ (xR n 1 (zK (zS (zL ?_)))))))))))
   have g := (g.trans (j.below e)).tr h
   have c := zB c h
   refine zD ⟨_, zo, (pos + (dec s pos).2), (n + 1), rfl, i, zk, c, g, zo, zo, zo, ?_⟩
   rw [← chk_on (n := n) a zo (by rw [← b]; assumption) zo]; exact k
  intro ac
  refine zJ (zs (zs (xY (zK (nQ (zF (zY (zJ (qM .i32 d 127 ?_ ?_)))))))))
  ·intro ad
   have g := (g.trans (j.below e)).tr h
   exact zK (nQ (zT (wR (zJ (zK (zK (nQ (yA (zR (zI (zR (zI (zR (zI (yK [(N6 n), (I6 31)] (hd := i) ⟨xQ (congrArg (fun x : Nat => Value.int .i64 (x : Int)) (by (rw [← k, chk_ctl (n := n) a zo (by rw [← b]; assumption) zo]; done))) (e6 (by (rw [← k, chk_ctl (n := n) a zo (by rw [← b]; assumption) zo]; done))), g⟩)))))))))))))))
  intro y
  refine zK (nQ (zF (zW (zL (zD (zY (zJ (xR n 1 (zK (zS (zL ?_)))))))))))
  have g := (g.trans (j.below e)).tr h
  have c := zB c h
  refine zD ⟨_, zo, (pos + (dec s pos).2), (n + 1), rfl, i, zk, c, g, zo, zo, zo, ?_⟩
  rw [← chk_on (n := n) a zo (by rw [← b]; assumption) zo]; exact k
 exact L_nextEnd s r pos zk c l (zr (.bool false) (nW (zF (yU (zV (zV (yI (zD (wR (zK (zK (nQ (yA (yK [(I6 0), (I6 0)] (hd := i) ⟨xQ (congrArg (fun x : Nat => Value.int .i64 (x : Int)) (by (rw [← k, chk_end zo]; done))) (e6 (by (rw [← k, chk_end zo]; done))), g⟩))))))))))))))
theorem c_lines_fields (s : List UInt8) (w : World) (hs : s.length ≤ 1073741824) :
  Calls Tryz.prog 74 #[(S s)] w (Ret fun v w' => ∃ (q0 : Value), v = q0 ∧ Row w' w.heap.size 9 1 encStr q0 (fieldsF s) ∧ Below w.heap.size w w') := by
 refine wO 37 func74 rfl ?_
 have g := Below.refl w.heap.size w
 refine wR (zK (nQ (W_scope (fun l m s0 w0 => (l = 1 ∧ ∃ (b : List (List UInt8)) (h : Nat) (a : Nat) (e : Value), (m = 3 * (s.length - a) + 2) ∧ (s0.ds = []) ∧ ([0, 3, 4, 5].map s0.f = [(S s), e, (N6 h), (N6 a)]) ∧ (Row w0 w.heap.size 9 1 encStr e b) ∧ (Below w.heap.size w w0) ∧ (h ≤ a) ∧ (a ≤ s.length) ∧ (noB 59 s h a) ∧ (b ++ (splF 59 (s.drop h)).map trmF = (splF 59 s).map trmF) ∧ (trmF s ≠ []) ∧ (b.length ≤ a)) ∨ (l = 2 ∧ ∃ (b : List (List UInt8)) (h : Nat) (a : Nat) (e : Value), (m = 3 * (s.length - a) + 1) ∧ (s0.ds = []) ∧ ([0, 3, 4, 5].map s0.f = [(S s), e, (N6 h), (N6 a)]) ∧ (Row w0 w.heap.size 9 1 encStr e b) ∧ (Below w.heap.size w w0) ∧ (h ≤ a) ∧ (a ≤ s.length) ∧ (noB 59 s h a) ∧ (b ++ (splF 59 (s.drop h)).map trmF = (splF 59 s).map trmF) ∧ (trmF s ≠ []) ∧ (b.length ≤ a) ∧ (∃ c : UInt8, s[a]? = some c ∧ c.toNat = 59) ∧ (a < s.length)) ∨ (l = 0 ∧ ∃ (b : List (List UInt8)) (h : Nat) (a : Nat) (e : Value), (m = 0) ∧ (s0.ds = []) ∧ ([0, 3, 4, 5].map s0.f = [(S s), e, (N6 h), (N6 a)]) ∧ (Row w0 w.heap.size 9 1 encStr e b) ∧ (Below w.heap.size w w0) ∧ (h ≤ a) ∧ (a ≤ s.length) ∧ (noB 59 s h a) ∧ (b ++ (splF 59 (s.drop h)).map trmF = (splF 59 s).map trmF) ∧ (trmF s ≠ []) ∧ (b.length ≤ a) ∧ (a = s.length))) ?_ ?_)))
 ·refine wR (zK (nR (zK (zK (nW (wR (zJ (zc (qU s _ zo) ?_))))))))
  rintro _ w1 ⟨rfl, p⟩
  have := trm_len s
  refine L_seq (trmF s) ([] : List UInt8) rfl zk zk ?_ ?_
  ·intro h4
   have g := g.tr p
   exact nQ (zT (wR (zK (nQ (yA (zI (jmpQ_ret (yK [(.slice none 0 0)] ⟨(.slice none 0 0), rfl, (Row.nil _ _ _ _ _).cast (by exact (fields_nil za).symm), g⟩))))))))
  intro h5
  refine nQ (zF (zW (zD (yC (W_label (zD (yC (wR (zJ (zJ (zsl 9 s (nEq 0 ((s).length) ?_ ?_))))))))))))
  ·intro h6
   refine nQ (zT (W_goto (vG (jmpQ_goto ?_))))
   have g := g.tr p
   refine ⟨_, Or.inr (Or.inr (⟨rfl, [], 0, 0, (.slice none 0 0), rfl, rfl, zk, Row.nil _ _ _ _ _, g, zo, zo, ?_, ?_, ?_, ?_, zo⟩))⟩
   ·exact noB_zero _ _ _
   ·rfl
   ·first | assumption | exact o
   (simp only [List.length_append, List.length_cons, List.length_nil]; omega)
  intro h7
  refine nQ (zF (zW (zD (yC (wR (zJ (zJ ?_)))))))
  have hz := yB s 0 zo; obtain ⟨t, ai⟩ := hz
  have := t.toNat_lt
  refine L_sindex (k := .i64) s 0 t underlying9 ai zk zk (vS .u8 ((t.toNat : Nat) : Int) ((59 : Nat) : Int) (t.toNat = 59) rfl (cmpN_eq t.toNat 59) zk zk ?_ ?_)
  ·intro ao
   replace ao : t.toNat = 59 := by omega
   refine nQ (zT (W_goto (vG (jmpQ_goto ?_))))
   have g := g.tr p
   refine ⟨_, Or.inr (Or.inl (⟨rfl, [], 0, 0, (.slice none 0 0), rfl, rfl, zk, Row.nil _ _ _ _ _, g, zo, zo, ?_, ?_, ?_, ?_, ?_, zo⟩))⟩
   ·exact noB_zero _ _ _
   ·rfl
   ·first | assumption | exact o
   ·(simp only [List.length_append, List.length_cons, List.length_nil]; omega)
   exact ⟨_, by assumption, by assumption⟩
  intro aj
  replace aj : t.toNat ≠ 59 := by omega
  refine nQ (zF (zW (zD (wR (zJ (xR 0 1 (zK (nW (W_goto (vG (jmpQ_goto ?_)))))))))))
  have g := g.tr p
  refine ⟨_, Or.inl (⟨rfl, [], 0, 1, (.slice none 0 0), rfl, rfl, zk, Row.nil _ _ _ _ _, g, zo, zo, ?_, ?_, ?_, ?_⟩)⟩
  ·exact noB_succ (noB_zero _ _ _) za za
  ·rfl
  ·first | assumption | exact o
  (simp only [List.length_append, List.length_cons, List.length_nil]; omega)
 rintro l a0 az ay (⟨rfl, b, h, a, e, hm, i, n, d, g, i0, i1, y, i3, o, i5⟩ | ⟨rfl, b, h, a, e, hm, i, n, d, g, i0, i1, y, i3, o, i5, i6, i7⟩ | ⟨rfl, b, h, a, e, hm, i, n, d, g, i0, i1, y, i3, o, i5, i6⟩)
 ·skip
  refine ⟨_, rfl, yZ n (yC (zW (zD (yC (wR (zJ (zJ (zsl 9 s (nEq a ((s).length) ?_ ?_)))))))))⟩
  ·intro a1
   refine nQ (zT (W_goto (vG (jmpQ_goto ?_))))
   refine ⟨_, zo, Or.inr (Or.inr (⟨rfl, b, h, a, e, rfl, i, zk, d, g, zo, zo, ?_, ?_, ?_, zo, zo⟩))⟩
   ·assumption
   ·assumption
   first | assumption | exact o
  intro a5
  refine nQ (zF (zW (zD (yC (wR (zJ (zJ ?_)))))))
  have hz := yB s a zo; obtain ⟨j, z⟩ := hz
  have := j.toNat_lt
  refine L_sindex (k := .i64) s a j underlying9 z zk zk (vS .u8 ((j.toNat : Nat) : Int) ((59 : Nat) : Int) (j.toNat = 59) rfl (cmpN_eq j.toNat 59) zk zk ?_ ?_)
  ·intro al
   replace al : j.toNat = 59 := by omega
   refine nQ (zT (W_goto (vG (jmpQ_goto ?_))))
   refine ⟨_, zo, Or.inr (Or.inl (⟨rfl, b, h, a, e, rfl, i, zk, d, g, zo, zo, ?_, ?_, ?_, zo, ?_, zo⟩))⟩
   ·assumption
   ·assumption
   ·first | assumption | exact o
   exact ⟨_, by assumption, by assumption⟩
  intro aq
  replace aq : j.toNat ≠ 59 := by omega
  refine nQ (zF (zW (zD (wR (zJ (xR a 1 (zK (nW (W_goto (vG (jmpQ_goto ?_)))))))))))
  refine ⟨_, zo, Or.inl (⟨rfl, b, h, (a + 1), e, rfl, i, zk, d, g, zo, zo, ?_, ?_, ?_, zo⟩)⟩
  ·exact noB_succ y za za
  ·assumption
  first | assumption | exact o
 ·skip
  refine ⟨_, rfl, yZ n ?_⟩
  obtain ⟨c0, an, ap⟩ := i6
  refine yC (zW (zD (wR (zJ (zJ (zJ (zJ (L_sslice s h a underlying9 zk ⟨.i64, zk⟩ ⟨.i64, zk⟩ zo zo (zc (qU (List.drop h (List.take a s)) _ (by (simp only [List.length_drop, List.length_take]; omega))) ?_)))))))))
  rintro _ a3 ⟨rfl, q⟩
  have := trm_len (List.drop h (List.take a s))
  have g := g.tr q
  have d := d.below q
  refine qE el88 w.heap.size e b (trmF (List.drop h (List.take a s))) g.size d zo zk rfl rfl zk rfl zk zk ?_
  intro ag a4 ad u ak
  have g := g.tg g.size u d
  have d := ad
  refine zK (nR (zJ (xR a 1 (zK (nR (zJ (zK (nW (W_goto (vG (jmpQ_goto ?_)))))))))))
  refine ⟨_, zo, Or.inl (⟨rfl, (b ++ [(trmF (List.drop h (List.take a s)))]), (a + 1), (a + 1), ag, rfl, i, zk, d, g, zo, zo, ?_, ?_, ?_, ?_⟩)⟩
  ·exact noB_zero _ _ _
  ·exact fld_hit y i0 an ap i3
  ·first | assumption | exact o
  (simp only [List.length_append, List.length_cons, List.length_nil]; omega)
 skip
 refine ⟨_, rfl, yZ n (yC (zW (zD (wR (zJ (zJ (zJ (L_ssfrom s h underlying9 zk ⟨.i64, zk⟩ zo (zc (qU (List.drop h s) _ (by (simp only [List.length_drop, List.length_take]; omega))) ?_)))))))))⟩
 rintro _ a2 ⟨rfl, r⟩
 have := trm_len (List.drop h s)
 have g := g.tr r
 have d := d.below r
 refine qE el88 w.heap.size e b (trmF (List.drop h s)) g.size d zo zk rfl rfl zk rfl zk zk ?_
 intro ab ax ac aa am
 have g := g.tg g.size aa d
 have d := ac
 exact zK (nQ (yA (jmpQ_ret (yK [ab] (hd := i) ⟨ab, rfl, d.cast (by exact fld_end y zo i3 o), g⟩))))
theorem c_lines_Cut (s : List UInt8) (w : World) (hs : s.length ≤ 1073741824) :
  Calls Tryz.prog 69 #[(S s)] w (Ret fun v w' => ∃ (q0 : Value), v = (.tuple #[q0, (S ((cutF s).2))]) ∧ Row w' w.heap.size 9 1 encStr q0 ((cutF s).1) ∧ Below w.heap.size w w') := by
 refine wO 17 func69 rfl ?_
 have b := Below.refl w.heap.size w
 refine wR (zK (zK (nR (zJ (zc (c_strings_Cut s ([35] : List UInt8) _ (by first | omega | decide | rfl) (by first | omega | decide | rfl)) ?_)))))
 rintro _ g ⟨rfl, d⟩
 have := qI s ([35] : List UInt8)
 refine zJ (zr (S ((Lib.cut s ([35] : List UInt8)).1)) (zr (S ((Lib.cut s ([35] : List UInt8)).2.1)) (zr (.bool ((Lib.cut s ([35] : List UInt8)).2.2)) (zK (zK (zK (nR (zJ (zc (c_lines_fields ((Lib.cut s ([35] : List UInt8)).1) _ (by first | omega | decide | rfl)) ?_)))))))))
 rintro f i ⟨_, rfl, a, e⟩
 have b := b.tr d
 have a := a.base b.size
 refine zJ (zc (qU ((Lib.cut s ([35] : List UInt8)).2.1) _ (by first | omega | decide | rfl)) ?_)
 rintro _ h ⟨rfl, c⟩
 have := trm_len ((Lib.cut s ([35] : List UInt8)).2.1)
 have b := (b.tr e).tr c
 have a := a.below c
 exact zK (zK (nQ (yA (yK [f, (S (trmF ((Lib.cut s ([35] : List UInt8)).2.1)))] ⟨f, xQ rfl (congrArg S (by rfl)), a.cast (by rfl), b⟩))))
theorem c_lines_named (s : List UInt8) (w : World) (hs : s.length ≤ 1073741824) :
  Calls Tryz.prog 73 #[(S s)] w (Ret fun v w' => v = (.bool (nameF s)) ∧ Below w.heap.size w w') := by
 refine wO 35 func73 rfl ?_
 have e := Below.refl w.heap.size w
 refine wR (zK (nW (wR (zJ (L_range s underlying9 zk ?_)))))
 intro o w2 k
 have c := k.ge e.size
 have d := k.here
 refine nQ (yF ?_)
 replace e := e.tr k.below
 refine xG (fun m s0 w0 => ∃ (pos : Nat), (m = s.length - pos) ∧ (s0.ds = []) ∧ ([0, 6].map s0.f = [(S s), (pt o 0)]) ∧ (w0.heap[o]? = some (.stringIter ⟨(s).toArray⟩ pos)) ∧ (Below w.heap.size w w0) ∧ (pos ≤ s.length) ∧ ((s.drop pos).all nmB = s.all nmB)) _ ⟨0, rfl, zk, zk, d, e, by omega, rfl⟩ ?_
 rintro m4 s5 w6 ⟨pos, hm, g, q, d, e, i1, i⟩
 refine yZ q (wR ?_)
 rcases Nat.lt_or_ge pos (s).length with a | j
 ·refine L_next s o pos zk d a ?_
  intro b w7 p h
  replace d := h.here
  have := dec_pos s pos; have := dec_fits s pos a; have := dec_le s pos
  have n : 0 ≤ b := by omega
  have l : b ≤ 2147483647 := by omega
  refine zr (.bool true) (nW (zT (zW (zD (yF (wR (zr (I3 b) (zK (nQ (yF (yC (wR (zJ (zGe .i32 b 65 ?_ ?_))))))))))))))
  ·intro h9
   refine zJ (zw (zJ (zw (zLe .i32 b 90 ?_ ?_))))
   ·intro aw
    refine xS (zK (nQ (zT (zW (zD (zT (zW (zL (zL ?_)))))))))
    replace e := e.trans (h.below c)
    exact zD ⟨_, zo, (pos + (dec s pos).2), rfl, g, zk, d, e, zo, qN a zo i⟩
   intro a9
   refine xS (zK (nQ (zF (wR (zJ (zGe .i32 b 97 ?_ ?_))))))
   ·intro y
    refine zJ (zw (zJ (zw (zLe .i32 b 122 ?_ ?_))))
    ·intro ab
     refine xS (zK (nQ (zT (zW (zD (zT (zW (zL (zL ?_)))))))))
     replace e := e.trans (h.below c)
     exact zD ⟨_, zo, (pos + (dec s pos).2), rfl, g, zk, d, e, zo, qN a zo i⟩
    intro bu
    refine xS (zK (nQ (zF (wR (zJ (zGe .i32 b 48 ?_ ?_))))))
    ·intro br
     refine zJ (zw (zJ (zw (zLe .i32 b 57 ?_ ?_))))
     ·intro be
      refine xS (zK (nQ (zT (zW (zD (zT (zW (zL (zL ?_)))))))))
      replace e := e.trans (h.below c)
      exact zD ⟨_, zo, (pos + (dec s pos).2), rfl, g, zk, d, e, zo, qN a zo i⟩
     intro bo
     refine xS (zK (nQ (zF (wR (zJ (qM .i32 b 95 ?_ ?_))))))
     ·intro ak
      refine zK (nQ (zT (zW (zD (zT (zW (zL (zL ?_))))))))
      replace e := e.trans (h.below c)
      exact zD ⟨_, zo, (pos + (dec s pos).2), rfl, g, zk, d, e, zo, qN a zo i⟩
     intro am
     refine zK (nQ (zF (zY (zJ (qM .i32 b 45 ?_ ?_)))))
     ·intro ax
      refine zK (nQ (zT (zW (zL (zL ?_)))))
      replace e := e.trans (h.below c)
      exact zD ⟨_, zo, (pos + (dec s pos).2), rfl, g, zk, d, e, zo, qN a zo i⟩
     intro bs
     replace e := e.trans (h.below c)
     exact zK (nQ (zF (wR (zK (nQ (yA (zR (zR (zI (zR (zI (yK [(.bool false)] (hd := g) ⟨eb (by exact (nm_off a zo i).symm), e⟩))))))))))))
    intro bb
    refine zJ (zs (zs (xY (zK (nQ (zF (wR (zJ (qM .i32 b 95 ?_ ?_)))))))))
    ·intro u
     refine zK (nQ (zT (zW (zD (zT (zW (zL (zL ?_))))))))
     replace e := e.trans (h.below c)
     exact zD ⟨_, zo, (pos + (dec s pos).2), rfl, g, zk, d, e, zo, qN a zo i⟩
    intro ac
    refine zK (nQ (zF (zY (zJ (qM .i32 b 45 ?_ ?_)))))
    ·intro az
     refine zK (nQ (zT (zW (zL (zL ?_)))))
     replace e := e.trans (h.below c)
     exact zD ⟨_, zo, (pos + (dec s pos).2), rfl, g, zk, d, e, zo, qN a zo i⟩
    intro ae
    replace e := e.trans (h.below c)
    exact zK (nQ (zF (wR (zK (nQ (yA (zR (zR (zI (zR (zI (yK [(.bool false)] (hd := g) ⟨eb (by exact (nm_off a zo i).symm), e⟩))))))))))))
   intro bd
   refine zJ (zs (zs (xY (zK (nQ (zF (wR (zJ (zGe .i32 b 48 ?_ ?_)))))))))
   ·intro an
    refine zJ (zw (zJ (zw (zLe .i32 b 57 ?_ ?_))))
    ·intro ba
     refine xS (zK (nQ (zT (zW (zD (zT (zW (zL (zL ?_)))))))))
     replace e := e.trans (h.below c)
     exact zD ⟨_, zo, (pos + (dec s pos).2), rfl, g, zk, d, e, zo, qN a zo i⟩
    intro aj
    refine xS (zK (nQ (zF (wR (zJ (qM .i32 b 95 ?_ ?_))))))
    ·intro aq
     refine zK (nQ (zT (zW (zD (zT (zW (zL (zL ?_))))))))
     replace e := e.trans (h.below c)
     exact zD ⟨_, zo, (pos + (dec s pos).2), rfl, g, zk, d, e, zo, qN a zo i⟩
    intro a0
    refine zK (nQ (zF (zY (zJ (qM .i32 b 45 ?_ ?_)))))
    ·intro a4
     refine zK (nQ (zT (zW (zL (zL ?_)))))
     replace e := e.trans (h.below c)
     exact zD ⟨_, zo, (pos + (dec s pos).2), rfl, g, zk, d, e, zo, qN a zo i⟩
    intro bh
    replace e := e.trans (h.below c)
    exact zK (nQ (zF (wR (zK (nQ (yA (zR (zR (zI (zR (zI (yK [(.bool false)] (hd := g) ⟨eb (by exact (nm_off a zo i).symm), e⟩))))))))))))
   intro bn
   refine zJ (zs (zs (xY (zK (nQ (zF (wR (zJ (qM .i32 b 95 ?_ ?_)))))))))
   ·intro a7
    refine zK (nQ (zT (zW (zD (zT (zW (zL (zL ?_))))))))
    replace e := e.trans (h.below c)
    exact zD ⟨_, zo, (pos + (dec s pos).2), rfl, g, zk, d, e, zo, qN a zo i⟩
   intro ai
   refine zK (nQ (zF (zY (zJ (qM .i32 b 45 ?_ ?_)))))
   ·intro bg
    refine zK (nQ (zT (zW (zL (zL ?_)))))
    replace e := e.trans (h.below c)
    exact zD ⟨_, zo, (pos + (dec s pos).2), rfl, g, zk, d, e, zo, qN a zo i⟩
   intro ad
   replace e := e.trans (h.below c)
   exact zK (nQ (zF (wR (zK (nQ (yA (zR (zR (zI (zR (zI (yK [(.bool false)] (hd := g) ⟨eb (by exact (nm_off a zo i).symm), e⟩))))))))))))
  intro a5
  refine zJ (zs (zs (xY (zK (nQ (zF (wR (zJ (zGe .i32 b 97 ?_ ?_)))))))))
  ·intro t
   refine zJ (zw (zJ (zw (zLe .i32 b 122 ?_ ?_))))
   ·intro a6
    refine xS (zK (nQ (zT (zW (zD (zT (zW (zL (zL ?_)))))))))
    replace e := e.trans (h.below c)
    exact zD ⟨_, zo, (pos + (dec s pos).2), rfl, g, zk, d, e, zo, qN a zo i⟩
   intro z
   refine xS (zK (nQ (zF (wR (zJ (zGe .i32 b 48 ?_ ?_))))))
   ·intro aa
    refine zJ (zw (zJ (zw (zLe .i32 b 57 ?_ ?_))))
    ·intro ag
     refine xS (zK (nQ (zT (zW (zD (zT (zW (zL (zL ?_)))))))))
     replace e := e.trans (h.below c)
     exact zD ⟨_, zo, (pos + (dec s pos).2), rfl, g, zk, d, e, zo, qN a zo i⟩
    intro bq
    refine xS (zK (nQ (zF (wR (zJ (qM .i32 b 95 ?_ ?_))))))
    ·intro r
     refine zK (nQ (zT (zW (zD (zT (zW (zL (zL ?_))))))))
     replace e := e.trans (h.below c)
     exact zD ⟨_, zo, (pos + (dec s pos).2), rfl, g, zk, d, e, zo, qN a zo i⟩
    intro bm
    refine zK (nQ (zF (zY (zJ (qM .i32 b 45 ?_ ?_)))))
    ·intro bi
     refine zK (nQ (zT (zW (zL (zL ?_)))))
     replace e := e.trans (h.below c)
     exact zD ⟨_, zo, (pos + (dec s pos).2), rfl, g, zk, d, e, zo, qN a zo i⟩
    intro a1
    replace e := e.trans (h.below c)
    exact zK (nQ (zF (wR (zK (nQ (yA (zR (zR (zI (zR (zI (yK [(.bool false)] (hd := g) ⟨eb (by exact (nm_off a zo i).symm), e⟩))))))))))))
   intro av
   refine zJ (zs (zs (xY (zK (nQ (zF (wR (zJ (qM .i32 b 95 ?_ ?_)))))))))
   ·intro ay
    refine zK (nQ (zT (zW (zD (zT (zW (zL (zL ?_))))))))
    replace e := e.trans (h.below c)
    exact zD ⟨_, zo, (pos + (dec s pos).2), rfl, g, zk, d, e, zo, qN a zo i⟩
   intro bt
   refine zK (nQ (zF (zY (zJ (qM .i32 b 45 ?_ ?_)))))
   ·intro au
    refine zK (nQ (zT (zW (zL (zL ?_)))))
    replace e := e.trans (h.below c)
    exact zD ⟨_, zo, (pos + (dec s pos).2), rfl, g, zk, d, e, zo, qN a zo i⟩
   intro al
   replace e := e.trans (h.below c)
   exact zK (nQ (zF (wR (zK (nQ (yA (zR (zR (zI (zR (zI (yK [(.bool false)] (hd := g) ⟨eb (by exact (nm_off a zo i).symm), e⟩))))))))))))
  intro ao
  refine zJ (zs (zs (xY (zK (nQ (zF (wR (zJ (zGe .i32 b 48 ?_ ?_)))))))))
  ·intro af
   refine zJ (zw (zJ (zw (zLe .i32 b 57 ?_ ?_))))
   ·intro bl
    refine xS (zK (nQ (zT (zW (zD (zT (zW (zL (zL ?_)))))))))
    replace e := e.trans (h.below c)
    exact zD ⟨_, zo, (pos + (dec s pos).2), rfl, g, zk, d, e, zo, qN a zo i⟩
   intro bj
   refine xS (zK (nQ (zF (wR (zJ (qM .i32 b 95 ?_ ?_))))))
   ·intro bk
    refine zK (nQ (zT (zW (zD (zT (zW (zL (zL ?_))))))))
    replace e := e.trans (h.below c)
    exact zD ⟨_, zo, (pos + (dec s pos).2), rfl, g, zk, d, e, zo, qN a zo i⟩
   intro a2
   refine zK (nQ (zF (zY (zJ (qM .i32 b 45 ?_ ?_)))))
   ·intro bv
    refine zK (nQ (zT (zW (zL (zL ?_)))))
    replace e := e.trans (h.below c)
    exact zD ⟨_, zo, (pos + (dec s pos).2), rfl, g, zk, d, e, zo, qN a zo i⟩
   intro ap
   replace e := e.trans (h.below c)
   exact zK (nQ (zF (wR (zK (nQ (yA (zR (zR (zI (zR (zI (yK [(.bool false)] (hd := g) ⟨eb (by exact (nm_off a zo i).symm), e⟩))))))))))))
  intro bp
  refine zJ (zs (zs (xY (zK (nQ (zF (wR (zJ (qM .i32 b 95 ?_ ?_)))))))))
  ·intro ah
   refine zK (nQ (zT (zW (zD (zT (zW (zL (zL ?_))))))))
   replace e := e.trans (h.below c)
   exact zD ⟨_, zo, (pos + (dec s pos).2), rfl, g, zk, d, e, zo, qN a zo i⟩
  intro bf
  refine zK (nQ (zF (zY (zJ (qM .i32 b 45 ?_ ?_)))))
  ·intro a3
   refine zK (nQ (zT (zW (zL (zL ?_)))))
   replace e := e.trans (h.below c)
   exact zD ⟨_, zo, (pos + (dec s pos).2), rfl, g, zk, d, e, zo, qN a zo i⟩
  intro ar
  replace e := e.trans (h.below c)
  exact zK (nQ (zF (wR (zK (nQ (yA (zR (zR (zI (zR (zI (yK [(.bool false)] (hd := g) ⟨eb (by exact (nm_off a zo i).symm), e⟩))))))))))))
 refine L_nextEnd s o pos zk d j (zr (.bool false) (nW (zF (yU (zV (zV (yI (zD (wR (zJ (L_sne s ([] : List UInt8) rfl zk zk ?_ ?_)))))))))))
 ·intro a8
  exact zK (nQ (yA (yK [(.bool true)] (hd := g) ⟨eb (by (rw [nm_end zo i]; simp [*]; done)), e⟩)))
 intro bc
 exact zK (nQ (yA (yK [(.bool false)] (hd := g) ⟨eb (by (rw [nm_end zo i]; simp [*]; done)), e⟩)))
theorem c_lines_pieces (s : List UInt8) (w : World) (hs : s.length ≤ 1073741824) :
  Calls Tryz.prog 67 #[(S s)] w (Ret fun v w' => ∃ (q0 : Value), v = q0 ∧ Row w' w.heap.size 129 3 encPc q0 (pcsI s) ∧ Below w.heap.size w w') := by
 refine wO 53 func67 rfl ?_
 have g := Below.refl w.heap.size w
 have bv := mark_len s
 refine wR (zK (nR (zK (nR (zK (nW (wR (zJ (zc (wD s ([239, 187, 191] : List UInt8) _ ) ?_)))))))))
 rintro _ w1 ⟨rfl, a5⟩
 refine yN (hpB s ([239, 187, 191] : List UInt8)) ?_ ?_
 ·intro h4
  have := hp_len h4; simp only [List.length_cons, List.length_nil] at this
  refine nQ (zT (zY (zK (nQ (yF ?_)))))
  replace g := g.tr a5
  refine xG (fun m s0 w0 => ∃ (a : Int) (h : List (Int × Int × Int)) (i : Value), (m = s.length - a.toNat) ∧ (s0.ds = []) ∧ ([0, 3, 4].map s0.f = [(S s), i, (I6 a)]) ∧ (Row w0 w.heap.size 129 3 encPc i h) ∧ (Below w.heap.size w w0) ∧ (0 ≤ a) ∧ (a ≤ s.length) ∧ (h.length ≤ a.toNat) ∧ (h ++ (pcsFrom s a.toNat a.toNat).map toI = pcsI s)) _ ⟨3, [], (.slice none 0 0), rfl, zk, zk, Row.nil _ _ _ _ _, g, by omega, by omega, zi, (by simp [pcsI, markN, markT, *])⟩ ?_
  rintro m5 s6 w7 ⟨a, h, i, hm, q, ap, d, g, i1, i2, i4, i3⟩
  refine yZ ap ?_
  have bc : (List.drop a.toNat s).length = s.length - a.toNat := List.length_drop
  refine yF (wR (zJ (zJ (L_ssfrom s ((a).toNat) underlying9 zk (toNat_val a .i64 zk zo) zo (zc (wZ (List.drop ((a).toNat) s) 10 _ ) ?_)))))
  rintro _ w8 ⟨rfl, aa⟩
  have := ib_range (List.drop ((a).toNat) s) 10
  refine zK (nW (wR (zJ (zLt .i64 (ibF (List.drop ((a).toNat) s) 10) 0 ?_ ?_))))
  ·intro b6
   replace g := g.tr aa
   replace d := d.below aa
   refine nQ (zT (wR (zJ (zJ (zJ (zsl 9 s (zJ (zsl 9 s (zr (Value.agg #[(I6 a), (N6 ((s).length)), (N6 ((s).length))]) (qE el126 w.heap.size i h (a, (((s).length : Nat) : Int), (((s).length : Nat) : Int)) g.size d zo zk rfl rfl zk rfl zk zk ?_))))))))))
   intro av bt a0 ar bf
   replace g := g.tg g.size ar d
   replace d := a0
   exact zK (nQ (yA (zI (zR (zI (zR (yK [av] (hd := q) ⟨av, rfl, d.cast (by exact pcsZ_end i1 i2 zo i3), g⟩)))))))
  intro cd
  refine nQ (zF (zW (zD (wR (zJ (zJ (zJ (wP a (ibF (List.drop ((a).toNat) s) 10) (a + (ibF (List.drop ((a).toNat) s) 10)) rfl zk zk (xM _ zh zh) (zJ (zJ (wP a (ibF (List.drop ((a).toNat) s) 10) (a + (ibF (List.drop ((a).toNat) s) 10)) rfl zk zk (xM _ zh zh) (wP (a + (ibF (List.drop ((a).toNat) s) 10)) 1 ((a + (ibF (List.drop ((a).toNat) s) 10)) + 1) rfl zk zk (xM _ zh zh) (zr (Value.agg #[(I6 a), (I6 (a + (ibF (List.drop ((a).toNat) s) 10))), (I6 ((a + (ibF (List.drop ((a).toNat) s) 10)) + 1))]) (zN [(I6 0), (I6 0), (I6 0)] 129 ?_))))))))))))))
  intro a7 bw l
  replace g := g.tr aa
  have n := l.ge g.size
  replace d := d.below aa
  have b := d.new_ne l
  have c := l.here
  refine wE [(I6 a), (I6 (a + (ibF (List.drop ((a).toNat) s) 10))), (I6 ((a + (ibF (List.drop ((a).toNat) s) 10)) + 1))] c ?_
  intro b7 p
  replace c := p.here
  refine nW (wR (zJ (zGt .i64 (ibF (List.drop ((a).toNat) s) 10) 0 ?_ ?_)))
  ·intro br
   refine zJ (zw (zJ (zw (zr (pt a7 1) (zw (zO 1 c rfl (zw (wP (a + (ibF (List.drop ((a).toNat) s) 10)) 1 ((a + (ibF (List.drop ((a).toNat) s) 10)) - 1) rfl zk zk (xM _ zh zh) (zw ?_)))))))))
   have hz := yB s (((a + (ibF (List.drop ((a).toNat) s) 10)) - 1).toNat) zo; obtain ⟨t, a3⟩ := hz
   have := t.toNat_lt
   refine L_sindexZ (k := .i64) s ((a + (ibF (List.drop ((a).toNat) s) 10)) - 1) (((a + (ibF (List.drop ((a).toNat) s) 10)) - 1).toNat) t zo underlying9 a3 zk zk (zw (vS .u8 ((t.toNat : Nat) : Int) ((13 : Nat) : Int) (t.toNat = 13) rfl (cmpN_eq t.toNat 13) zk zk ?_ ?_))
   ·intro ba
    replace ba : t.toNat = 13 := by omega
    refine xS (nQ (zT (zY (zFO 1 c rfl (wP (a + (ibF (List.drop ((a).toNat) s) 10)) 1 ((a + (ibF (List.drop ((a).toNat) s) 10)) - 1) rfl zk zk (xM _ zh zh) (zr (pt a7 1) (z1 1 (I6 ((a + (ibF (List.drop ((a).toNat) s) 10)) - 1)) [(I6 a), (I6 ((a + (ibF (List.drop ((a).toNat) s) 10)) - 1)), (I6 ((a + (ibF (List.drop ((a).toNat) s) 10)) + 1))] c ?_)))))))
    intro b0 y
    replace c := y.here
    replace g := ((g.tr l.below).trans (p.below n)).trans (y.below n)
    replace d := ((d.below l.below).wrote p b).wrote y b
    refine nR (zJ (zOW c (qE el126 w.heap.size i h (a, ((a + (ibF (List.drop ((a).toNat) s) 10)) - 1), ((a + (ibF (List.drop ((a).toNat) s) 10)) + 1)) g.size d zo zk rfl rfl zk rfl zk zk ?_)))
    intro bb bu ay ag al
    have e := ownb_app al b (yE c)
    replace g := g.tg g.size ag d
    replace c := yO c ag b
    have b := e
    replace d := ay
    refine zK (nQ (zY (zFO 2 c rfl (zK (zS (zL (zD ⟨_, zo, ((a + (ibF (List.drop ((a).toNat) s) 10)) + 1), (h ++ [(a, ((a + (ibF (List.drop ((a).toNat) s) 10)) - 1), ((a + (ibF (List.drop ((a).toNat) s) 10)) + 1))]), bb, rfl, q, zk, d, g, zo, zo, ?_, ?_⟩)))))))
    ·simp only [List.length_append, List.length_cons, List.length_nil]; omega
    exact pcsZ_step i1 rfl zo (.inl ⟨rfl, by omega, _, by assumption, by assumption⟩) i3
   intro bi
   replace bi : t.toNat ≠ 13 := by omega
   replace g := (g.tr l.below).trans (p.below n)
   replace d := (d.below l.below).wrote p b
   refine xS (nQ (zF (zW (zD (wR (zJ (zOW c (qE el126 w.heap.size i h (a, (a + (ibF (List.drop ((a).toNat) s) 10)), ((a + (ibF (List.drop ((a).toNat) s) 10)) + 1)) g.size d zo zk rfl rfl zk rfl zk zk ?_))))))))
   intro bm b1 az ai aj
   have e := ownb_app aj b (yE c)
   replace g := g.tg g.size ai d
   replace c := yO c ai b
   have b := e
   replace d := az
   refine zK (nQ (zY (zFO 2 c rfl (zK (zS (zL (zD ⟨_, zo, ((a + (ibF (List.drop ((a).toNat) s) 10)) + 1), (h ++ [(a, (a + (ibF (List.drop ((a).toNat) s) 10)), ((a + (ibF (List.drop ((a).toNat) s) 10)) + 1))]), bm, rfl, q, zk, d, g, zo, zo, ?_, ?_⟩)))))))
   ·simp only [List.length_append, List.length_cons, List.length_nil]; omega
   exact pcsZ_step i1 rfl zo (.inr ⟨rfl, .inr ⟨_, by assumption, by assumption⟩⟩) i3
  intro b5
  replace g := (g.tr l.below).trans (p.below n)
  replace d := (d.below l.below).wrote p b
  refine zJ (zs (zs (zs (zs (zs (zs (xY (nQ (zF (zW (zD (wR (zJ (zOW c (qE el126 w.heap.size i h (a, (a + (ibF (List.drop ((a).toNat) s) 10)), ((a + (ibF (List.drop ((a).toNat) s) 10)) + 1)) g.size d zo zk rfl rfl zk rfl zk zk ?_)))))))))))))))
  intro bh bs a1 ad ao
  have e := ownb_app ao b (yE c)
  replace g := g.tg g.size ad d
  replace c := yO c ad b
  have b := e
  replace d := a1
  refine zK (nQ (zY (zFO 2 c rfl (zK (zS (zL (zD ⟨_, zo, ((a + (ibF (List.drop ((a).toNat) s) 10)) + 1), (h ++ [(a, (a + (ibF (List.drop ((a).toNat) s) 10)), ((a + (ibF (List.drop ((a).toNat) s) 10)) + 1))]), bh, rfl, q, zk, d, g, zo, zo, ?_, ?_⟩)))))))
  ·simp only [List.length_append, List.length_cons, List.length_nil]; omega
  exact pcsZ_step i1 rfl zo (.inr ⟨rfl, .inl zo⟩) i3
 intro ce
 refine nQ (zF (zW (zD (yF ?_))))
 replace g := g.tr a5
 refine xG (fun m s0 w0 => ∃ (a : Int) (h : List (Int × Int × Int)) (i : Value), (m = s.length - a.toNat) ∧ (s0.ds = []) ∧ ([0, 3, 4].map s0.f = [(S s), i, (I6 a)]) ∧ (Row w0 w.heap.size 129 3 encPc i h) ∧ (Below w.heap.size w w0) ∧ (0 ≤ a) ∧ (a ≤ s.length) ∧ (h.length ≤ a.toNat) ∧ (h ++ (pcsFrom s a.toNat a.toNat).map toI = pcsI s)) _ ⟨0, [], (.slice none 0 0), rfl, zk, zk, Row.nil _ _ _ _ _, g, by omega, by omega, zi, (by simp [pcsI, markN, markT, *])⟩ ?_
 rintro bx bp b2 ⟨a, h, i, hm, q, ap, d, g, i1, i2, i4, i3⟩
 refine yZ ap ?_
 have bc : (List.drop a.toNat s).length = s.length - a.toNat := List.length_drop
 refine yF (wR (zJ (zJ (L_ssfrom s ((a).toNat) underlying9 zk (toNat_val a .i64 zk zo) zo (zc (wZ (List.drop ((a).toNat) s) 10 _ ) ?_)))))
 rintro _ bq ⟨rfl, u⟩
 have := ib_range (List.drop ((a).toNat) s) 10
 refine zK (nW (wR (zJ (zLt .i64 (ibF (List.drop ((a).toNat) s) 10) 0 ?_ ?_))))
 ·intro ch
  replace g := g.tr u
  replace d := d.below u
  refine nQ (zT (wR (zJ (zJ (zJ (zsl 9 s (zJ (zsl 9 s (zr (Value.agg #[(I6 a), (N6 ((s).length)), (N6 ((s).length))]) (qE el126 w.heap.size i h (a, (((s).length : Nat) : Int), (((s).length : Nat) : Int)) g.size d zo zk rfl rfl zk rfl zk zk ?_))))))))))
  intro a8 ci aq ax bn
  replace g := g.tg g.size ax d
  replace d := aq
  exact zK (nQ (yA (zI (zR (zI (zR (yK [a8] (hd := q) ⟨a8, rfl, d.cast (by exact pcsZ_end i1 i2 zo i3), g⟩)))))))
 intro ca
 refine nQ (zF (zW (zD (wR (zJ (zJ (zJ (wP a (ibF (List.drop ((a).toNat) s) 10) (a + (ibF (List.drop ((a).toNat) s) 10)) rfl zk zk (xM _ zh zh) (zJ (zJ (wP a (ibF (List.drop ((a).toNat) s) 10) (a + (ibF (List.drop ((a).toNat) s) 10)) rfl zk zk (xM _ zh zh) (wP (a + (ibF (List.drop ((a).toNat) s) 10)) 1 ((a + (ibF (List.drop ((a).toNat) s) 10)) + 1) rfl zk zk (xM _ zh zh) (zr (Value.agg #[(I6 a), (I6 (a + (ibF (List.drop ((a).toNat) s) 10))), (I6 ((a + (ibF (List.drop ((a).toNat) s) 10)) + 1))]) (zN [(I6 0), (I6 0), (I6 0)] 129 ?_))))))))))))))
 intro a2 cb j
 replace g := g.tr u
 have n := j.ge g.size
 replace d := d.below u
 have b := d.new_ne j
 have c := j.here
 refine wE [(I6 a), (I6 (a + (ibF (List.drop ((a).toNat) s) 10))), (I6 ((a + (ibF (List.drop ((a).toNat) s) 10)) + 1))] c ?_
 intro b4 o
 replace c := o.here
 refine nW (wR (zJ (zGt .i64 (ibF (List.drop ((a).toNat) s) 10) 0 ?_ ?_)))
 ·intro bz
  refine zJ (zw (zJ (zw (zr (pt a2 1) (zw (zO 1 c rfl (zw (wP (a + (ibF (List.drop ((a).toNat) s) 10)) 1 ((a + (ibF (List.drop ((a).toNat) s) 10)) - 1) rfl zk zk (xM _ zh zh) (zw ?_)))))))))
  have hz := yB s (((a + (ibF (List.drop ((a).toNat) s) 10)) - 1).toNat) zo; obtain ⟨r, a4⟩ := hz
  have := r.toNat_lt
  refine L_sindexZ (k := .i64) s ((a + (ibF (List.drop ((a).toNat) s) 10)) - 1) (((a + (ibF (List.drop ((a).toNat) s) 10)) - 1).toNat) r zo underlying9 a4 zk zk (zw (vS .u8 ((r.toNat : Nat) : Int) ((13 : Nat) : Int) (r.toNat = 13) rfl (cmpN_eq r.toNat 13) zk zk ?_ ?_))
  ·intro bd
   replace bd : r.toNat = 13 := by omega
   refine xS (nQ (zT (zY (zFO 1 c rfl (wP (a + (ibF (List.drop ((a).toNat) s) 10)) 1 ((a + (ibF (List.drop ((a).toNat) s) 10)) - 1) rfl zk zk (xM _ zh zh) (zr (pt a2 1) (z1 1 (I6 ((a + (ibF (List.drop ((a).toNat) s) 10)) - 1)) [(I6 a), (I6 ((a + (ibF (List.drop ((a).toNat) s) 10)) - 1)), (I6 ((a + (ibF (List.drop ((a).toNat) s) 10)) + 1))] c ?_)))))))
   intro b8 z
   replace c := z.here
   replace g := ((g.tr j.below).trans (o.below n)).trans (z.below n)
   replace d := ((d.below j.below).wrote o b).wrote z b
   refine nR (zJ (zOW c (qE el126 w.heap.size i h (a, ((a + (ibF (List.drop ((a).toNat) s) 10)) - 1), ((a + (ibF (List.drop ((a).toNat) s) 10)) + 1)) g.size d zo zk rfl rfl zk rfl zk zk ?_)))
   intro bl cg a6 ae am
   have e := ownb_app am b (yE c)
   replace g := g.tg g.size ae d
   replace c := yO c ae b
   have b := e
   replace d := a6
   refine zK (nQ (zY (zFO 2 c rfl (zK (zS (zL (zD ⟨_, zo, ((a + (ibF (List.drop ((a).toNat) s) 10)) + 1), (h ++ [(a, ((a + (ibF (List.drop ((a).toNat) s) 10)) - 1), ((a + (ibF (List.drop ((a).toNat) s) 10)) + 1))]), bl, rfl, q, zk, d, g, zo, zo, ?_, ?_⟩)))))))
   ·simp only [List.length_append, List.length_cons, List.length_nil]; omega
   exact pcsZ_step i1 rfl zo (.inl ⟨rfl, by omega, _, by assumption, by assumption⟩) i3
  intro bj
  replace bj : r.toNat ≠ 13 := by omega
  replace g := (g.tr j.below).trans (o.below n)
  replace d := (d.below j.below).wrote o b
  refine xS (nQ (zF (zW (zD (wR (zJ (zOW c (qE el126 w.heap.size i h (a, (a + (ibF (List.drop ((a).toNat) s) 10)), ((a + (ibF (List.drop ((a).toNat) s) 10)) + 1)) g.size d zo zk rfl rfl zk rfl zk zk ?_))))))))
  intro bk bo aw ah an
  have e := ownb_app an b (yE c)
  replace g := g.tg g.size ah d
  replace c := yO c ah b
  have b := e
  replace d := aw
  refine zK (nQ (zY (zFO 2 c rfl (zK (zS (zL (zD ⟨_, zo, ((a + (ibF (List.drop ((a).toNat) s) 10)) + 1), (h ++ [(a, (a + (ibF (List.drop ((a).toNat) s) 10)), ((a + (ibF (List.drop ((a).toNat) s) 10)) + 1))]), bk, rfl, q, zk, d, g, zo, zo, ?_, ?_⟩)))))))
  ·simp only [List.length_append, List.length_cons, List.length_nil]; omega
  exact pcsZ_step i1 rfl zo (.inr ⟨rfl, .inr ⟨_, by assumption, by assumption⟩⟩) i3
 intro b9
 replace g := (g.tr j.below).trans (o.below n)
 replace d := (d.below j.below).wrote o b
 refine zJ (zs (zs (zs (zs (zs (zs (xY (nQ (zF (zW (zD (wR (zJ (zOW c (qE el126 w.heap.size i h (a, (a + (ibF (List.drop ((a).toNat) s) 10)), ((a + (ibF (List.drop ((a).toNat) s) 10)) + 1)) g.size d zo zk rfl rfl zk rfl zk zk ?_)))))))))))))))
 intro bg cj au af ak
 have e := ownb_app ak b (yE c)
 replace g := g.tg g.size af d
 replace c := yO c af b
 have b := e
 replace d := au
 refine zK (nQ (zY (zFO 2 c rfl (zK (zS (zL (zD ⟨_, zo, ((a + (ibF (List.drop ((a).toNat) s) 10)) + 1), (h ++ [(a, (a + (ibF (List.drop ((a).toNat) s) 10)), ((a + (ibF (List.drop ((a).toNat) s) 10)) + 1))]), bg, rfl, q, zk, d, g, zo, zo, ?_, ?_⟩)))))))
 ·simp only [List.length_append, List.length_cons, List.length_nil]; omega
 exact pcsZ_step i1 rfl zo (.inr ⟨rfl, .inl zo⟩) i3
theorem it_lines_Each_1 (aa : Nat) (s : List UInt8) (hs : s.length ≤ 1073741824) :
  Iter (α := Int × List UInt8) Tryz.prog 66 [.pointer (some ⟨aa, 0, none⟩)] (fun x => [.int .i64 x.1, S x.2]) (toldF s) (fun w => w.heap[aa]? = some (.cells [(S s)].toArray 9 (0, 0))) := by
 intro l J Jx w hN h0 ag au hY
 refine wO 30 func66 rfl ?_
 have hb := Below.refl w.heap.size w
 have hs : w.heap.size ≤ w.heap.size := Nat.le_refl _
 have a := hN
 refine wR (zO 0 a rfl (zc (c_lines_pieces s _ zo) ?_))
 rintro q1 w2 ⟨_, rfl, b, ad⟩
 have b := b.base hs
 have hb := hb.trans (ad.mono hs)
 replace hs := Nat.le_trans hs (ad.size)
 have := pcsI_len s
 refine zln underlying126 (b.rd).len (zJ (nQ (yF ?_)))
 have r := h0 _ hb
 obtain ⟨K, ai⟩ : ∃ K, K = w2.heap.size := ⟨_, rfl⟩
 rw [← ai] at r
 have u : K ≤ w2.heap.size := by omega
 have al : w.heap.size ≤ K := by omega
 have t : ∀ g, Value.ownBlock q1 = some g → Iv w.heap.size K g := fun g hg => by have := World.ownsRow.lt b g hg; exact ⟨this.1, by omega⟩
 have a := zB a ad
 refine xG (fun m s0 w0 => ∃ (i : Nat) (q : List (Int × List UInt8)), (m = (pcsI s).length - i) ∧ (s0.ds = []) ∧ ([0, 1, 6, 7, 8].map s0.f = [(.func (.yield l) #[] #[]), (pt aa 0), q1, (N6 ((pcsI s).length)), (N6 i)]) ∧ (Row w0 w.heap.size 129 3 encPc q1 (pcsI s)) ∧ (w0.heap[aa]? = some (.cells [(S s)].toArray 9 (0, 0))) ∧ (w.heap.size ≤ w0.heap.size) ∧ (K ≤ w0.heap.size) ∧ (J K q w0) ∧ (i ≤ (pcsI s).length) ∧ (q ++ toldL s i ((pcsI s).drop i) = toldF s)) _ ⟨0, [], rfl, zk, zk, b, a, hs, u, r, by omega, rfl⟩ ?_
 rintro m5 s6 w7 ⟨i, q, hm, z, ao, b, a, hs, u, r, i1, i3⟩
 refine yZ ao (wR (nLt i ((pcsI s).length) ?_ ?_))
 ·intro h8
  refine nW (zT (zW (zD (yC (yF (wR (zJ ?_)))))))
  have hz := yB (pcsI s) i zo; obtain ⟨o, ac⟩ := hz
  have aj := pcsI_ok ac
  obtain ⟨a2, a7, a0, a3⟩ := aj
  refine zEA b.rd el126 i ac [(I6 o.1), (I6 o.2.1), (I6 o.2.2)] rfl fun _ => (zN [(I6 0), (I6 0), (I6 0)] 129 ?_)
  intro af a4 c
  have av := c.ge hs
  have p := Ch.refl (Iv w.heap.size K) w7
  have v : (World.heap w7).size ≤ af ∨ Iv w.heap.size K af := .inl (by rw [c.num]; exact p.size)
  have n := b.new_ne c
  replace u := Nat.le_trans u (c.below.size)
  replace hs := Nat.le_trans hs (c.below.size)
  have d := c.here
  refine zK (wE [(I6 o.1), (I6 o.2.1), (I6 o.2.2)] d ?_)
  intro ay j
  replace u := Nat.le_trans u (Nat.le_of_eq j.size.symm)
  replace hs := Nat.le_trans hs (Nat.le_of_eq j.size.symm)
  have a := zB a c.below
  have a := zH a j (zP a d zi)
  have d := j.here
  refine nW (wR (zFO 0 d rfl (zFO 2 d rfl (qM .i64 o.1 o.2.2 ?_ ?_))))
  ·intro a8
   refine nQ (zT (yA (zI (zR (zI (zI (zR (yK [] (hd := z) ?_))))))))
   replace p := (p.trans2 (Ch.of_below c.below) (fun _ h => h.elim)).trans2 (Ch.of_wrote j) (fun k e => e ▸ v)
   replace r := ag _ _ _ _ r p
   clear p
   have y : q = toldF s := by exact told_stop za za i3
   rw [y] at r
   exact ⟨hs, Or.inl ⟨K, r⟩⟩
  intro a5
  refine nQ (zF (zW (zD (wR (zJ (zJ (xR i 1 (zO 0 a rfl (zFO 0 d rfl (zFO 1 d rfl (L_sslice s ((o.1).toNat) ((o.2.1).toNat) underlying9 zk (toNat_val o.1 .i64 zk zo) (toNat_val o.2.1 .i64 zk zo) zo zo ?_)))))))))))
  replace p := (p.trans2 (Ch.of_below c.below) (fun _ h => h.elim)).trans2 (Ch.of_wrote j) (fun k e => e ▸ v)
  replace r := ag _ _ _ _ r p
  clear p
  have ab : q ++ [((((i + 1) : Nat) : Int), (List.drop ((o.1).toNat) (List.take ((o.2.1).toNat) s)))] <+: toldF s := by exact pre_of3 (told_step za za i3)
  refine L_yield l [(N6 (i + 1)), (S (List.drop ((o.1).toNat) (List.take ((o.2.1).toNat) s)))] zk zk (hY K q ((((i + 1) : Nat) : Int), (List.drop ((o.1).toNat) (List.take ((o.2.1).toNat) s))) _ r a al u ab) ?_
  rintro e a6 (⟨rfl, aq, hk, ak⟩ | ⟨rfl, ap, hk⟩)
  ·refine ⟨true, rfl, ?_⟩
   have b := (b.below c.below).wrote j n
   have b := b.kp hk t
   replace hs := Nat.le_trans hs hk.size
   replace u := Nat.le_trans u hk.size
   replace r := aq
   have a := ak
   refine qW true (nQ (zF (zW (zL (zD (zY (xR i 1 (zJ (zS (zD ⟨_, zo, (i + 1), (q ++ [((((i + 1) : Nat) : Int), (List.drop ((o.1).toNat) (List.take ((o.2.1).toNat) s)))]), rfl, z, zk, b, a, hs, u, r, zo, ?_⟩))))))))))
   exact told_step za za i3
  refine ⟨false, rfl, ?_⟩
  replace hs := Nat.le_trans hs hk.size
  replace u := Nat.le_trans u hk.size
  refine qW false (nQ (zT (yA (zR (zI (zI (zR (yK [] (hd := z) ?_))))))))
  exact ⟨hs, Or.inr ⟨K, _, _, ab, ap⟩⟩
 intro az
 refine nW (zF (yU (zV (zV (yI (znrm [] (hd := z) ?_))))))
 have y : q = toldF s := by exact told_end zo i3
 rw [y] at r
 exact ⟨hs, Or.inl ⟨K, r⟩⟩
theorem c_lines_Each (s : List UInt8) (w : World) :
  Calls Tryz.prog 37 #[(S s)] w (Ret fun v w' => ∃ (cb0 : Nat), v = (.func (.func 66) #[] #[(pt cb0 0)]) ∧ w'.heap[cb0]? = some (.cells [(S s)].toArray 9 (0, 0)) ∧ w.heap.size ≤ cb0 ∧ Below w.heap.size w w') := by
 refine wO 4 func37 rfl ?_
 have d := Below.refl w.heap.size w
 refine wR (zN [(S s)] 9 ?_)
 intro e f a
 have c := a.ge d.size
 have b := a.here
 have d := d.tr a.below
 exact zK (nR (zr (.func (.func 66) #[] #[(pt e 0)]) (zK (nQ (yA (yK [(.func (.func 66) #[] #[(pt e 0)])] ⟨e, rfl, b, c, d⟩))))))
end Go.Proofs.YtddnhlobnembaaaGreatDoor
end

/- === Wlscan === -/
section
/- Walks, written by my program walk.py out of the specification lscan.py: each theorem says what one function returns and that it leaves memory as it was. -/
namespace Go.Proofs.YtddnhlobnembaaaGreatDoor
open Go Go.RowKit Go.FK _root_.Go.Proofs.Tryz
set_option maxHeartbeats 4000000
set_option maxRecDepth 100000
theorem c_lines_Scan (no : Int) (s : List UInt8) (w : World) (hs : s.length ≤ 1073741824) :
  Calls Tryz.prog 39 #[(I6 no), (S s)] w (Ret fun v w' => ∃ (q0 : Value), v = (.tuple #[(Value.agg #[(I6 ((scanF no s).1.1)), (U8 ((scanF no s).1.2.1)), (S ((scanF no s).1.2.2.1)), q0, (S ((scanF no s).1.2.2.2.2))]), (I6 ((scanF no s).2))]) ∧ Row w' w.heap.size 9 1 encStr q0 ((scanF no s).1.2.2.2.1) ∧ Below w.heap.size w w') := by
 refine wO 84 func39 rfl ?_
 have o := Below.refl w.heap.size w
 have cf := cutF_len s
 refine wR (zN [(I6 0), (U8 0), (S []), (.slice none 0 0), (S [])] 90 ?_)
 intro b1 w2 bg
 have aa := bg.ge o.size
 have c := bg.here
 refine zK (nW (wR (zJ (zc (c_lines_Check s _ zo) ?_))))
 rintro _ w4 ⟨rfl, bh⟩
 have := chkF_range s
 refine zJ (zr (N6 ((chkF s).1)) (zr (I6 ((chkF s).2)) (zK (zK (nR (zJ (zNe .i64 ((chkF s).2) 0 ?_ ?_)))))))
 ·intro h7
  replace c := zB c bh
  refine nQ (zT (wR (zr (Value.agg #[(I6 0), (U8 0), (S []), (.slice none 0 0), (S [])]) (zJ (wE [(I6 0), (U8 0), (S []), (.slice none 0 0), (S [])] c ?_)))))
  intro w8 bl
  replace c := bl.here
  refine zK (nQ (yA (zI (xP [.cell 4 90, .tmp 5] [(Value.agg #[(I6 0), (U8 0), (S []), (.slice none 0 0), (S [])]), (I6 ((chkF s).2))] rfl rfl ⟨⟨⟨b1, 0, none⟩, zk, xL [(I6 0), (U8 0), (S []), (.slice none 0 0), (S [])] zk zk (xJ c)⟩, zk, trivial⟩ ?_))))
  replace o := ((o.tr bg.below).tr bh).trans (bl.below aa)
  exact ⟨(.slice none 0 0), xQ (by (rw [scan_bad za]; try rfl; done)) (e6 (by (rw [scan_bad za]; try rfl; done))), (Row.nil _ _ _ _ _).cast (by (rw [scan_bad za]; try rfl; done)), o⟩
 intro cy
 refine nQ (zF (zW (zD (wR (zJ (zr (Value.agg #[(I6 no), (U8 0), (S []), (.slice none 0 0), (S [])]) (zN [(I6 0), (U8 0), (S []), (.slice none 0 0), (S [])] 90 ?_)))))))
 intro z cq u
 replace c := zB c bh
 have a := yS (yE c) u
 replace o := (o.tr bg.below).tr bh
 have e := u.ge o.size
 have b := u.here
 refine wE [(I6 no), (U8 0), (S []), (.slice none 0 0), (S [])] b ?_
 intro cm y
 replace b := y.here
 refine nR (zJ (zc (c_lines_Cut s _ zo) ?_))
 rintro _ cj ⟨l, rfl, d, j⟩
 replace o := (o.tr u.below).trans (y.below e)
 replace d := d.base o.size
 replace b := zB b j
 refine zJ (zr l (zr (S ((cutF s).2)) (zr (pt z 3) (vE z 3 l [(I6 no), (U8 0), (S []), (.slice none 0 0), (S [])] [(I6 no), (U8 0), (S []), l, (S [])] 90 zk zk d.one zk b zi rfl ?_))))
 intro ci i
 replace d := d.wrote i (d.ne b zi)
 replace b := i.here
 refine zr (pt z 4) (z1 4 (S ((cutF s).2)) [(I6 no), (U8 0), (S []), l, (S ((cutF s).2))] b ?_)
 intro dh h
 replace d := d.wrote h (d.ne b zi)
 replace b := h.here
 refine nR (zJ (zc (c_strings_Cut s ([35] : List UInt8) _ (by rfl) zo) ?_))
 rintro _ cn ⟨rfl, f⟩
 have := qI s ([35] : List UInt8)
 refine zJ (zr (S ((Lib.cut s ([35] : List UInt8)).1)) (zr (S ((Lib.cut s ([35] : List UInt8)).2.1)) (zr (.bool ((Lib.cut s ([35] : List UInt8)).2.2)) (yN ((Lib.cut s ([35] : List UInt8)).2.2) ?_ ?_))))
 ·intro c8
  refine zK (zK (zK (nR (zJ (zc (qU ((Lib.cut s ([35] : List UInt8)).1) _ zo) ?_)))))
  rintro _ c0 ⟨rfl, q⟩
  have := trm_len ((Lib.cut s ([35] : List UInt8)).1)
  refine zK (nW (yF (wR (zJ (zc (wD (trmF ((Lib.cut s ([35] : List UInt8)).1)) ([64] : List UInt8) _ ) ?_)))))
  rintro _ dj ⟨rfl, t⟩
  refine yN (hpB (trmF ((Lib.cut s ([35] : List UInt8)).1)) ([64] : List UInt8)) ?_ ?_
  ·intro bo
   have := hp_len bo; simp only [List.length_cons, List.length_nil] at this
   refine zK (nQ (zT (wR (zJ (L_ssfrom (trmF ((Lib.cut s ([35] : List UInt8)).1)) 1 underlying9 zk ⟨.i64, zk⟩ zo (zc (c_strings_Cut (List.drop 1 (trmF ((Lib.cut s ([35] : List UInt8)).1))) ([58] : List UInt8) _ (by rfl) (by (simp only [List.length_drop, List.length_take] at *; omega))) ?_))))))
   rintro _ c6 ⟨rfl, ad⟩
   have := qI (List.drop 1 (trmF ((Lib.cut s ([35] : List UInt8)).1))) ([58] : List UInt8)
   refine zJ (zr (S ((Lib.cut (List.drop 1 (trmF ((Lib.cut s ([35] : List UInt8)).1))) ([58] : List UInt8)).1)) (zr (S ((Lib.cut (List.drop 1 (trmF ((Lib.cut s ([35] : List UInt8)).1))) ([58] : List UInt8)).2.1)) (zr (.bool ((Lib.cut (List.drop 1 (trmF ((Lib.cut s ([35] : List UInt8)).1))) ([58] : List UInt8)).2.2)) (yN ((Lib.cut (List.drop 1 (trmF ((Lib.cut s ([35] : List UInt8)).1))) ([58] : List UInt8)).2.2) ?_ ?_))))
   ·intro da
    refine zK (zK (zK (nW (wR (zJ (qW true (zJ (zw (zJ (zw (zc (c_lines_named ((Lib.cut (List.drop 1 (trmF ((Lib.cut s ([35] : List UInt8)).1))) ([58] : List UInt8)).1) _ (by (simp only [List.length_drop, List.length_take] at *; omega))) ?_)))))))))))
    rintro _ cw ⟨rfl, aq⟩
    refine yN (nameF ((Lib.cut (List.drop 1 (trmF ((Lib.cut s ([35] : List UInt8)).1))) ([58] : List UInt8)).1)) ?_ ?_
    ·intro c7
     refine zw (qW true (xY (nQ (zF (zW (zD (zY (zJ (zJ (zc (c_lines_fields ((Lib.cut (List.drop 1 (trmF ((Lib.cut s ([35] : List UInt8)).1))) ([58] : List UInt8)).2.1) _ (by (simp only [List.length_drop, List.length_take] at *; omega))) ?_))))))))))
     rintro aw c2 ⟨_, rfl, m, a7⟩
     replace o := (((((((o.tr j).trans (i.below e)).trans (h.below e)).tr f).tr q).tr t).tr ad).tr aq
     replace m := m.base o.size
     replace b := zB (zB (zB (zB (zB (zB b f) q) t) ad) aq) a7
     refine zr (pt z 1) (z1 1 (U8 2) [(I6 no), (U8 2), (S []), l, (S ((cutF s).2))] b ?_)
     intro c9 a3
     replace m := m.wrote a3 (m.ne b zi)
     replace b := a3.here
     refine zr (pt z 2) (z1 2 (S ((Lib.cut (List.drop 1 (trmF ((Lib.cut s ([35] : List UInt8)).1))) ([58] : List UInt8)).1)) [(I6 no), (U8 2), (S ((Lib.cut (List.drop 1 (trmF ((Lib.cut s ([35] : List UInt8)).1))) ([58] : List UInt8)).1)), l, (S ((cutF s).2))] b ?_)
     intro cx a1
     replace m := m.wrote a1 (m.ne b zi)
     replace b := a1.here
     refine zr (pt z 3) (vE z 3 aw [(I6 no), (U8 2), (S ((Lib.cut (List.drop 1 (trmF ((Lib.cut s ([35] : List UInt8)).1))) ([58] : List UInt8)).1)), l, (S ((cutF s).2))] [(I6 no), (U8 2), (S ((Lib.cut (List.drop 1 (trmF ((Lib.cut s ([35] : List UInt8)).1))) ([58] : List UInt8)).1)), aw, (S ((cutF s).2))] 90 zk zk m.one zk b zi rfl ?_)
     intro de a4
     replace m := m.wrote a4 (m.ne b zi)
     replace b := a4.here
     replace c := zH (zH (zH (zB (zB (zB (zB (zB (zB (zH (zH (zB (zH (zB c u.below) y a) j) i a) h a) f) q) t) ad) aq) a7) a3 a) a1 a) a4 a
     refine zS (zL (zD (wR (zOW b (qS b1 0 [(I6 no), (U8 2), (S ((Lib.cut (List.drop 1 (trmF ((Lib.cut s ([35] : List UInt8)).1))) ([58] : List UInt8)).1)), aw, (S ((cutF s).2))] [(I6 0), (U8 0), (S []), (.slice none 0 0), (S [])] [(I6 no), (U8 2), (S ((Lib.cut (List.drop 1 (trmF ((Lib.cut s ([35] : List UInt8)).1))) ([58] : List UInt8)).1)), aw, (S ((cutF s).2))] 90 zk zk (wS rfl (wS rfl (wS rfl (wS m.one (wS rfl rfl))))) zk c zk rfl ?_)))))
     intro cg be
     replace m := m.wrote be (m.ne c zi)
     replace c := be.here
     refine zK (nQ (yA (xP [.cell 4 90, .tmp 5] [(Value.agg #[(I6 no), (U8 2), (S ((Lib.cut (List.drop 1 (trmF ((Lib.cut s ([35] : List UInt8)).1))) ([58] : List UInt8)).1)), aw, (S ((cutF s).2))]), (I6 0)] rfl rfl ⟨⟨⟨b1, 0, none⟩, zk, xL [(I6 no), (U8 2), (S ((Lib.cut (List.drop 1 (trmF ((Lib.cut s ([35] : List UInt8)).1))) ([58] : List UInt8)).1)), aw, (S ((cutF s).2))] zk zk (xJ c)⟩, zk, trivial⟩ ?_)))
     replace o := ((((o.tr a7).trans (a3.below e)).trans (a1.below e)).trans (a4.below e)).trans (be.below aa)
     exact ⟨aw, xQ (by (rw [scan_order za za za za]; try rfl; done)) (e6 (by (rw [scan_order za za za za]; try rfl; done))), m.cast (by (rw [scan_order za za za za]; try rfl; done)), o⟩
    intro cu
    replace c := zB (zB (zB (zB (zB (zH (zH (zB (zH (zB c u.below) y a) j) i a) h a) f) q) t) ad) aq
    refine zw (qW false (xY (nQ (zT (wR (zr (Value.agg #[(I6 0), (U8 0), (S []), (.slice none 0 0), (S [])]) (wE [(I6 0), (U8 0), (S []), (.slice none 0 0), (S [])] c ?_)))))))
    intro di bi
    replace c := bi.here
    refine zK (nQ (yA (zI (zR (zI (xP [.cell 4 90, .tmp 5] [(Value.agg #[(I6 0), (U8 0), (S []), (.slice none 0 0), (S [])]), (I6 33)] rfl rfl ⟨⟨⟨b1, 0, none⟩, zk, xL [(I6 0), (U8 0), (S []), (.slice none 0 0), (S [])] zk zk (xJ c)⟩, zk, trivial⟩ ?_))))))
    replace o := ((((((((o.tr j).trans (i.below e)).trans (h.below e)).tr f).tr q).tr t).tr ad).tr aq).trans (bi.below aa)
    exact ⟨(.slice none 0 0), xQ (by (rw [xW za za (.inr za)]; try rfl; done)) (e6 (by (rw [xW za za (.inr za)]; try rfl; done))), (Row.nil _ _ _ _ _).cast (by (rw [xW za za (.inr za)]; try rfl; done)), o⟩
   intro db
   replace c := zB (zB (zB (zB (zH (zH (zB (zH (zB c u.below) y a) j) i a) h a) f) q) t) ad
   refine zK (zK (zK (nW (wR (zJ (qW false (zJ (zs (zs (zs (xS (nQ (zT (wR (zr (Value.agg #[(I6 0), (U8 0), (S []), (.slice none 0 0), (S [])]) (wE [(I6 0), (U8 0), (S []), (.slice none 0 0), (S [])] c ?_))))))))))))))))
   intro ct bj
   replace c := bj.here
   refine zK (nQ (yA (zI (zR (zI (xP [.cell 4 90, .tmp 5] [(Value.agg #[(I6 0), (U8 0), (S []), (.slice none 0 0), (S [])]), (I6 33)] rfl rfl ⟨⟨⟨b1, 0, none⟩, zk, xL [(I6 0), (U8 0), (S []), (.slice none 0 0), (S [])] zk zk (xJ c)⟩, zk, trivial⟩ ?_))))))
   replace o := (((((((o.tr j).trans (i.below e)).trans (h.below e)).tr f).tr q).tr t).tr ad).trans (bj.below aa)
   exact ⟨(.slice none 0 0), xQ (by (rw [xW za za (.inl za)]; try rfl; done)) (e6 (by (rw [xW za za (.inl za)]; try rfl; done))), (Row.nil _ _ _ _ _).cast (by (rw [xW za za (.inl za)]; try rfl; done)), o⟩
  intro c3
  refine zK (nQ (zF (wR (zJ (L_sne (trmF ((Lib.cut s ([35] : List UInt8)).1)) ([] : List UInt8) rfl zk zk ?_ ?_)))))
  ·intro dk
   replace b := zB (zB (zB b f) q) t
   refine zK (nQ (zT (zY (zr (pt z 1) (z1 1 (U8 1) [(I6 no), (U8 1), (S []), l, (S ((cutF s).2))] b ?_)))))
   intro c1 a2
   replace d := ((d.below f).below q).below t
   replace d := d.wrote a2 (d.ne b zi)
   replace b := a2.here
   replace c := zH (zB (zB (zB (zH (zH (zB (zH (zB c u.below) y a) j) i a) h a) f) q) t) a2 a
   refine zS (zL (zD (wR (zOW b (qS b1 0 [(I6 no), (U8 1), (S []), l, (S ((cutF s).2))] [(I6 0), (U8 0), (S []), (.slice none 0 0), (S [])] [(I6 no), (U8 1), (S []), l, (S ((cutF s).2))] 90 zk zk (wS rfl (wS rfl (wS rfl (wS d.one (wS rfl rfl))))) zk c zk rfl ?_)))))
   intro cp bd
   replace d := d.wrote bd (d.ne c zi)
   replace c := bd.here
   refine zK (nQ (yA (xP [.cell 4 90, .tmp 5] [(Value.agg #[(I6 no), (U8 1), (S []), l, (S ((cutF s).2))]), (I6 0)] rfl rfl ⟨⟨⟨b1, 0, none⟩, zk, xL [(I6 no), (U8 1), (S []), l, (S ((cutF s).2))] zk zk (xJ c)⟩, zk, trivial⟩ ?_)))
   replace o := (((((((o.tr j).trans (i.below e)).trans (h.below e)).tr f).tr q).tr t).trans (a2.below e)).trans (bd.below aa)
   exact ⟨l, xQ (by (rw [scan_data za za za]; try rfl; done)) (e6 (by (rw [scan_data za za za]; try rfl; done))), d.cast (by (rw [scan_data za za za]; try rfl; done)), o⟩
  intro c4
  replace b := zB (zB (zB b f) q) t
  refine zK (nQ (zF (wR (zFO 4 b rfl (zc (wD ((cutF s).2) ([64, 109, 105, 115, 115, 105, 110, 103, 58] : List UInt8) _ ) ?_)))))
  rintro _ cz ⟨rfl, ag⟩
  refine yN (hpB ((cutF s).2) ([64, 109, 105, 115, 115, 105, 110, 103, 58] : List UInt8)) ?_ ?_
  ·intro bm
   have := hp_len bm; simp only [List.length_cons, List.length_nil] at this
   replace b := zB b ag
   refine zK (nQ (zT (wR (zr (pt z 1) (z1 1 (U8 3) [(I6 no), (U8 3), (S []), l, (S ((cutF s).2))] b ?_)))))
   intro df bf
   replace b := bf.here
   refine nQ (zY (zFO 4 b rfl (L_ssfrom ((cutF s).2) 9 underlying9 zk ⟨.i64, zk⟩ zo (zc (c_lines_Cut (List.drop 9 ((cutF s).2)) _ (by (simp only [List.length_drop, List.length_take] at *; omega))) ?_))))
   rintro _ cl ⟨ao, rfl, n, a8⟩
   replace o := (((((((o.tr j).trans (i.below e)).trans (h.below e)).tr f).tr q).tr t).tr ag).trans (bf.below e)
   replace n := n.base o.size
   replace b := zB b a8
   refine zJ (zr ao (zr (S ((cutF (List.drop 9 ((cutF s).2))).2)) (zr (pt z 3) (vE z 3 ao [(I6 no), (U8 3), (S []), l, (S ((cutF s).2))] [(I6 no), (U8 3), (S []), ao, (S ((cutF s).2))] 90 zk zk n.one zk b zi rfl ?_))))
   intro ce a6
   replace n := n.wrote a6 (n.ne b zi)
   replace b := a6.here
   refine zr (pt z 4) (z1 4 (S ((cutF (List.drop 9 ((cutF s).2))).2)) [(I6 no), (U8 3), (S []), ao, (S ((cutF (List.drop 9 ((cutF s).2))).2))] b ?_)
   intro cs a5
   replace n := n.wrote a5 (n.ne b zi)
   replace b := a5.here
   replace c := zH (zH (zB (zH (zB (zB (zB (zB (zH (zH (zB (zH (zB c u.below) y a) j) i a) h a) f) q) t) ag) bf a) a8) a6 a) a5 a
   refine zS (zL (zD (wR (zOW b (qS b1 0 [(I6 no), (U8 3), (S []), ao, (S ((cutF (List.drop 9 ((cutF s).2))).2))] [(I6 0), (U8 0), (S []), (.slice none 0 0), (S [])] [(I6 no), (U8 3), (S []), ao, (S ((cutF (List.drop 9 ((cutF s).2))).2))] 90 zk zk (wS rfl (wS rfl (wS rfl (wS n.one (wS rfl rfl))))) zk c zk rfl ?_)))))
   intro co bb
   replace n := n.wrote bb (n.ne c zi)
   replace c := bb.here
   refine zK (nQ (yA (xP [.cell 4 90, .tmp 5] [(Value.agg #[(I6 no), (U8 3), (S []), ao, (S ((cutF (List.drop 9 ((cutF s).2))).2))]), (I6 0)] rfl rfl ⟨⟨⟨b1, 0, none⟩, zk, xL [(I6 no), (U8 3), (S []), ao, (S ((cutF (List.drop 9 ((cutF s).2))).2))] zk zk (xJ c)⟩, zk, trivial⟩ ?_)))
   replace o := (((o.tr a8).trans (a6.below e)).trans (a5.below e)).trans (bb.below aa)
   exact ⟨ao, xQ (by (rw [scan_miss za za za]; try rfl; done)) (e6 (by (rw [scan_miss za za za]; try rfl; done))), n.cast (by (rw [scan_miss za za za]; try rfl; done)), o⟩
  intro cr
  replace c := zB (zB (zB (zB (zH (zH (zB (zH (zB c u.below) y a) j) i a) h a) f) q) t) ag
  replace b := zB b ag
  replace d := (((d.below f).below q).below t).below ag
  refine zK (nQ (zF (zW (zL (zD (wR (zOW b (qS b1 0 [(I6 no), (U8 0), (S []), l, (S ((cutF s).2))] [(I6 0), (U8 0), (S []), (.slice none 0 0), (S [])] [(I6 no), (U8 0), (S []), l, (S ((cutF s).2))] 90 zk zk (wS rfl (wS rfl (wS rfl (wS d.one (wS rfl rfl))))) zk c zk rfl ?_))))))))
  intro dc a9
  replace d := d.wrote a9 (d.ne c zi)
  replace c := a9.here
  refine zK (nQ (yA (xP [.cell 4 90, .tmp 5] [(Value.agg #[(I6 no), (U8 0), (S []), l, (S ((cutF s).2))]), (I6 0)] rfl rfl ⟨⟨⟨b1, 0, none⟩, zk, xL [(I6 no), (U8 0), (S []), l, (S ((cutF s).2))] zk zk (xJ c)⟩, zk, trivial⟩ ?_)))
  replace o := (((((((o.tr j).trans (i.below e)).trans (h.below e)).tr f).tr q).tr t).tr ag).trans (a9.below aa)
  exact ⟨l, xQ (by (rw [scan_blank za za za]; try rfl; done)) (e6 (by (rw [scan_blank za za za]; try rfl; done))), d.cast (by (rw [scan_blank za za za]; try rfl; done)), o⟩
 intro cv
 refine zK (zK (zK (nR (zJ (zc (qU ((Lib.cut s ([35] : List UInt8)).1) _ zo) ?_)))))
 rintro _ ch ⟨rfl, p⟩
 have := trm_len ((Lib.cut s ([35] : List UInt8)).1)
 refine zK (nW (yF (wR (zJ (zc (wD (trmF ((Lib.cut s ([35] : List UInt8)).1)) ([64] : List UInt8) _ ) ?_)))))
 rintro _ ck ⟨rfl, r⟩
 refine yN (hpB (trmF ((Lib.cut s ([35] : List UInt8)).1)) ([64] : List UInt8)) ?_ ?_
 ·intro bn
  have := hp_len bn; simp only [List.length_cons, List.length_nil] at this
  refine zK (nQ (zT (wR (zJ (L_ssfrom (trmF ((Lib.cut s ([35] : List UInt8)).1)) 1 underlying9 zk ⟨.i64, zk⟩ zo (zc (c_strings_Cut (List.drop 1 (trmF ((Lib.cut s ([35] : List UInt8)).1))) ([58] : List UInt8) _ (by rfl) (by (simp only [List.length_drop, List.length_take] at *; omega))) ?_))))))
  rintro _ dd ⟨rfl, ah⟩
  have := qI (List.drop 1 (trmF ((Lib.cut s ([35] : List UInt8)).1))) ([58] : List UInt8)
  refine zJ (zr (S ((Lib.cut (List.drop 1 (trmF ((Lib.cut s ([35] : List UInt8)).1))) ([58] : List UInt8)).1)) (zr (S ((Lib.cut (List.drop 1 (trmF ((Lib.cut s ([35] : List UInt8)).1))) ([58] : List UInt8)).2.1)) (zr (.bool ((Lib.cut (List.drop 1 (trmF ((Lib.cut s ([35] : List UInt8)).1))) ([58] : List UInt8)).2.2)) (yN ((Lib.cut (List.drop 1 (trmF ((Lib.cut s ([35] : List UInt8)).1))) ([58] : List UInt8)).2.2) ?_ ?_))))
  ·intro c5
   refine zK (zK (zK (nW (wR (zJ (qW true (zJ (zw (zJ (zw (zc (c_lines_named ((Lib.cut (List.drop 1 (trmF ((Lib.cut s ([35] : List UInt8)).1))) ([58] : List UInt8)).1) _ (by (simp only [List.length_drop, List.length_take] at *; omega))) ?_)))))))))))
   rintro _ dg ⟨rfl, af⟩
   refine yN (nameF ((Lib.cut (List.drop 1 (trmF ((Lib.cut s ([35] : List UInt8)).1))) ([58] : List UInt8)).1)) ?_ ?_
   ·intro b2
    refine zw (qW true (xY (nQ (zF (zW (zD (zY (zJ (zJ (zc (c_lines_fields ((Lib.cut (List.drop 1 (trmF ((Lib.cut s ([35] : List UInt8)).1))) ([58] : List UInt8)).2.1) _ (by (simp only [List.length_drop, List.length_take] at *; omega))) ?_))))))))))
    rintro ae ca ⟨_, rfl, g, ay⟩
    replace o := (((((((o.tr j).trans (i.below e)).trans (h.below e)).tr f).tr p).tr r).tr ah).tr af
    replace g := g.base o.size
    replace b := zB (zB (zB (zB (zB (zB b f) p) r) ah) af) ay
    refine zr (pt z 1) (z1 1 (U8 2) [(I6 no), (U8 2), (S []), l, (S ((cutF s).2))] b ?_)
    intro b8 am
    replace g := g.wrote am (g.ne b zi)
    replace b := am.here
    refine zr (pt z 2) (z1 2 (S ((Lib.cut (List.drop 1 (trmF ((Lib.cut s ([35] : List UInt8)).1))) ([58] : List UInt8)).1)) [(I6 no), (U8 2), (S ((Lib.cut (List.drop 1 (trmF ((Lib.cut s ([35] : List UInt8)).1))) ([58] : List UInt8)).1)), l, (S ((cutF s).2))] b ?_)
    intro cb aj
    replace g := g.wrote aj (g.ne b zi)
    replace b := aj.here
    refine zr (pt z 3) (vE z 3 ae [(I6 no), (U8 2), (S ((Lib.cut (List.drop 1 (trmF ((Lib.cut s ([35] : List UInt8)).1))) ([58] : List UInt8)).1)), l, (S ((cutF s).2))] [(I6 no), (U8 2), (S ((Lib.cut (List.drop 1 (trmF ((Lib.cut s ([35] : List UInt8)).1))) ([58] : List UInt8)).1)), ae, (S ((cutF s).2))] 90 zk zk g.one zk b zi rfl ?_)
    intro cd al
    replace g := g.wrote al (g.ne b zi)
    replace b := al.here
    replace c := zH (zH (zH (zB (zB (zB (zB (zB (zB (zH (zH (zB (zH (zB c u.below) y a) j) i a) h a) f) p) r) ah) af) ay) am a) aj a) al a
    refine zS (zL (zD (wR (zOW b (qS b1 0 [(I6 no), (U8 2), (S ((Lib.cut (List.drop 1 (trmF ((Lib.cut s ([35] : List UInt8)).1))) ([58] : List UInt8)).1)), ae, (S ((cutF s).2))] [(I6 0), (U8 0), (S []), (.slice none 0 0), (S [])] [(I6 no), (U8 2), (S ((Lib.cut (List.drop 1 (trmF ((Lib.cut s ([35] : List UInt8)).1))) ([58] : List UInt8)).1)), ae, (S ((cutF s).2))] 90 zk zk (wS rfl (wS rfl (wS rfl (wS g.one (wS rfl rfl))))) zk c zk rfl ?_)))))
    intro bw ar
    replace g := g.wrote ar (g.ne c zi)
    replace c := ar.here
    refine zK (nQ (yA (xP [.cell 4 90, .tmp 5] [(Value.agg #[(I6 no), (U8 2), (S ((Lib.cut (List.drop 1 (trmF ((Lib.cut s ([35] : List UInt8)).1))) ([58] : List UInt8)).1)), ae, (S ((cutF s).2))]), (I6 0)] rfl rfl ⟨⟨⟨b1, 0, none⟩, zk, xL [(I6 no), (U8 2), (S ((Lib.cut (List.drop 1 (trmF ((Lib.cut s ([35] : List UInt8)).1))) ([58] : List UInt8)).1)), ae, (S ((cutF s).2))] zk zk (xJ c)⟩, zk, trivial⟩ ?_)))
    replace o := ((((o.tr ay).trans (am.below e)).trans (aj.below e)).trans (al.below e)).trans (ar.below aa)
    exact ⟨ae, xQ (by (rw [scan_order za za za za]; try rfl; done)) (e6 (by (rw [scan_order za za za za]; try rfl; done))), g.cast (by (rw [scan_order za za za za]; try rfl; done)), o⟩
   intro b3
   replace c := zB (zB (zB (zB (zB (zH (zH (zB (zH (zB c u.below) y a) j) i a) h a) f) p) r) ah) af
   refine zw (qW false (xY (nQ (zT (wR (zr (Value.agg #[(I6 0), (U8 0), (S []), (.slice none 0 0), (S [])]) (wE [(I6 0), (U8 0), (S []), (.slice none 0 0), (S [])] c ?_)))))))
   intro bz bc
   replace c := bc.here
   refine zK (nQ (yA (zI (zR (zI (xP [.cell 4 90, .tmp 5] [(Value.agg #[(I6 0), (U8 0), (S []), (.slice none 0 0), (S [])]), (I6 33)] rfl rfl ⟨⟨⟨b1, 0, none⟩, zk, xL [(I6 0), (U8 0), (S []), (.slice none 0 0), (S [])] zk zk (xJ c)⟩, zk, trivial⟩ ?_))))))
   replace o := ((((((((o.tr j).trans (i.below e)).trans (h.below e)).tr f).tr p).tr r).tr ah).tr af).trans (bc.below aa)
   exact ⟨(.slice none 0 0), xQ (by (rw [xW za za (.inr za)]; try rfl; done)) (e6 (by (rw [xW za za (.inr za)]; try rfl; done))), (Row.nil _ _ _ _ _).cast (by (rw [xW za za (.inr za)]; try rfl; done)), o⟩
  intro b6
  replace c := zB (zB (zB (zB (zH (zH (zB (zH (zB c u.below) y a) j) i a) h a) f) p) r) ah
  refine zK (zK (zK (nW (wR (zJ (qW false (zJ (zs (zs (zs (xS (nQ (zT (wR (zr (Value.agg #[(I6 0), (U8 0), (S []), (.slice none 0 0), (S [])]) (wE [(I6 0), (U8 0), (S []), (.slice none 0 0), (S [])] c ?_))))))))))))))))
  intro bt ba
  replace c := ba.here
  refine zK (nQ (yA (zI (zR (zI (xP [.cell 4 90, .tmp 5] [(Value.agg #[(I6 0), (U8 0), (S []), (.slice none 0 0), (S [])]), (I6 33)] rfl rfl ⟨⟨⟨b1, 0, none⟩, zk, xL [(I6 0), (U8 0), (S []), (.slice none 0 0), (S [])] zk zk (xJ c)⟩, zk, trivial⟩ ?_))))))
  replace o := (((((((o.tr j).trans (i.below e)).trans (h.below e)).tr f).tr p).tr r).tr ah).trans (ba.below aa)
  exact ⟨(.slice none 0 0), xQ (by (rw [xW za za (.inl za)]; try rfl; done)) (e6 (by (rw [xW za za (.inl za)]; try rfl; done))), (Row.nil _ _ _ _ _).cast (by (rw [xW za za (.inl za)]; try rfl; done)), o⟩
 intro b0
 refine zK (nQ (zF (wR (zJ (L_sne (trmF ((Lib.cut s ([35] : List UInt8)).1)) ([] : List UInt8) rfl zk zk ?_ ?_)))))
 ·intro cc
  replace b := zB (zB (zB b f) p) r
  refine zK (nQ (zT (zY (zr (pt z 1) (z1 1 (U8 1) [(I6 no), (U8 1), (S []), l, (S ((cutF s).2))] b ?_)))))
  intro bq ap
  replace d := ((d.below f).below p).below r
  replace d := d.wrote ap (d.ne b zi)
  replace b := ap.here
  replace c := zH (zB (zB (zB (zH (zH (zB (zH (zB c u.below) y a) j) i a) h a) f) p) r) ap a
  refine zS (zL (zD (wR (zOW b (qS b1 0 [(I6 no), (U8 1), (S []), l, (S ((cutF s).2))] [(I6 0), (U8 0), (S []), (.slice none 0 0), (S [])] [(I6 no), (U8 1), (S []), l, (S ((cutF s).2))] 90 zk zk (wS rfl (wS rfl (wS rfl (wS d.one (wS rfl rfl))))) zk c zk rfl ?_)))))
  intro br ax
  replace d := d.wrote ax (d.ne c zi)
  replace c := ax.here
  refine zK (nQ (yA (xP [.cell 4 90, .tmp 5] [(Value.agg #[(I6 no), (U8 1), (S []), l, (S ((cutF s).2))]), (I6 0)] rfl rfl ⟨⟨⟨b1, 0, none⟩, zk, xL [(I6 no), (U8 1), (S []), l, (S ((cutF s).2))] zk zk (xJ c)⟩, zk, trivial⟩ ?_)))
  replace o := (((((((o.tr j).trans (i.below e)).trans (h.below e)).tr f).tr p).tr r).trans (ap.below e)).trans (ax.below aa)
  exact ⟨l, xQ (by (rw [scan_data za za za]; try rfl; done)) (e6 (by (rw [scan_data za za za]; try rfl; done))), d.cast (by (rw [scan_data za za za]; try rfl; done)), o⟩
 intro b4
 replace b := zB (zB (zB b f) p) r
 refine zK (nQ (zF (wR (zFO 4 b rfl (zc (wD ((cutF s).2) ([64, 109, 105, 115, 115, 105, 110, 103, 58] : List UInt8) _ ) ?_)))))
 rintro _ bv ⟨rfl, ab⟩
 refine yN (hpB ((cutF s).2) ([64, 109, 105, 115, 115, 105, 110, 103, 58] : List UInt8)) ?_ ?_
 ·intro bk
  have := hp_len bk; simp only [List.length_cons, List.length_nil] at this
  replace b := zB b ab
  refine zK (nQ (zT (wR (zr (pt z 1) (z1 1 (U8 3) [(I6 no), (U8 3), (S []), l, (S ((cutF s).2))] b ?_)))))
  intro bx av
  replace b := av.here
  refine nQ (zY (zFO 4 b rfl (L_ssfrom ((cutF s).2) 9 underlying9 zk ⟨.i64, zk⟩ zo (zc (c_lines_Cut (List.drop 9 ((cutF s).2)) _ (by (simp only [List.length_drop, List.length_take] at *; omega))) ?_))))
  rintro _ bs ⟨ac, rfl, k, au⟩
  replace o := (((((((o.tr j).trans (i.below e)).trans (h.below e)).tr f).tr p).tr r).tr ab).trans (av.below e)
  replace k := k.base o.size
  replace b := zB b au
  refine zJ (zr ac (zr (S ((cutF (List.drop 9 ((cutF s).2))).2)) (zr (pt z 3) (vE z 3 ac [(I6 no), (U8 3), (S []), l, (S ((cutF s).2))] [(I6 no), (U8 3), (S []), ac, (S ((cutF s).2))] 90 zk zk k.one zk b zi rfl ?_))))
  intro bp ak
  replace k := k.wrote ak (k.ne b zi)
  replace b := ak.here
  refine zr (pt z 4) (z1 4 (S ((cutF (List.drop 9 ((cutF s).2))).2)) [(I6 no), (U8 3), (S []), ac, (S ((cutF (List.drop 9 ((cutF s).2))).2))] b ?_)
  intro b7 an
  replace k := k.wrote an (k.ne b zi)
  replace b := an.here
  replace c := zH (zH (zB (zH (zB (zB (zB (zB (zH (zH (zB (zH (zB c u.below) y a) j) i a) h a) f) p) r) ab) av a) au) ak a) an a
  refine zS (zL (zD (wR (zOW b (qS b1 0 [(I6 no), (U8 3), (S []), ac, (S ((cutF (List.drop 9 ((cutF s).2))).2))] [(I6 0), (U8 0), (S []), (.slice none 0 0), (S [])] [(I6 no), (U8 3), (S []), ac, (S ((cutF (List.drop 9 ((cutF s).2))).2))] 90 zk zk (wS rfl (wS rfl (wS rfl (wS k.one (wS rfl rfl))))) zk c zk rfl ?_)))))
  intro b5 az
  replace k := k.wrote az (k.ne c zi)
  replace c := az.here
  refine zK (nQ (yA (xP [.cell 4 90, .tmp 5] [(Value.agg #[(I6 no), (U8 3), (S []), ac, (S ((cutF (List.drop 9 ((cutF s).2))).2))]), (I6 0)] rfl rfl ⟨⟨⟨b1, 0, none⟩, zk, xL [(I6 no), (U8 3), (S []), ac, (S ((cutF (List.drop 9 ((cutF s).2))).2))] zk zk (xJ c)⟩, zk, trivial⟩ ?_)))
  replace o := (((o.tr au).trans (ak.below e)).trans (an.below e)).trans (az.below aa)
  exact ⟨ac, xQ (by (rw [scan_miss za za za]; try rfl; done)) (e6 (by (rw [scan_miss za za za]; try rfl; done))), k.cast (by (rw [scan_miss za za za]; try rfl; done)), o⟩
 intro bu
 replace c := zB (zB (zB (zB (zH (zH (zB (zH (zB c u.below) y a) j) i a) h a) f) p) r) ab
 replace b := zB b ab
 replace d := (((d.below f).below p).below r).below ab
 refine zK (nQ (zF (zW (zL (zD (wR (zOW b (qS b1 0 [(I6 no), (U8 0), (S []), l, (S ((cutF s).2))] [(I6 0), (U8 0), (S []), (.slice none 0 0), (S [])] [(I6 no), (U8 0), (S []), l, (S ((cutF s).2))] 90 zk zk (wS rfl (wS rfl (wS rfl (wS d.one (wS rfl rfl))))) zk c zk rfl ?_))))))))
 intro b9 a0
 replace d := d.wrote a0 (d.ne c zi)
 replace c := a0.here
 refine zK (nQ (yA (xP [.cell 4 90, .tmp 5] [(Value.agg #[(I6 no), (U8 0), (S []), l, (S ((cutF s).2))]), (I6 0)] rfl rfl ⟨⟨⟨b1, 0, none⟩, zk, xL [(I6 no), (U8 0), (S []), l, (S ((cutF s).2))] zk zk (xJ c)⟩, zk, trivial⟩ ?_)))
 replace o := (((((((o.tr j).trans (i.below e)).trans (h.below e)).tr f).tr p).tr r).tr ab).trans (a0.below aa)
 exact ⟨l, xQ (by (rw [scan_blank za za za]; try rfl; done)) (e6 (by (rw [scan_blank za za za]; try rfl; done))), d.cast (by (rw [scan_blank za za za]; try rfl; done)), o⟩
end Go.Proofs.YtddnhlobnembaaaGreatDoor
end

/- === Wlread === -/
section
/- Walks, written by my program walk.py out of the specification lread.py: each theorem says what one function returns and that it leaves memory as it was. -/
namespace Go.Proofs.YtddnhlobnembaaaGreatDoor
open Go Go.RowKit Go.FK
end Go.Proofs.YtddnhlobnembaaaGreatDoor
end

/- === Wccor === -/
section
/- Walks, written by my program walk.py out of the specification ccor.py: each theorem says what one function returns and that it leaves memory as it was. -/
namespace Go.Proofs.YtddnhlobnembaaaGreatDoor
open Go Go.RowKit Go.FK _root_.Go.Proofs.Tryz
set_option maxHeartbeats 4000000
set_option maxRecDepth 100000
def laysRev_ren : Go.Shelf.Ren := ⟨fun | 35 => 77 | n => n, fun | 22 => 97 | 23 => 5 | n => n, fun | n => n⟩
theorem laysRev : Go.Proofs.SlLaysE.n35 Tryz.prog laysRev_ren := {
 mixed := by kernel_rfl
 f35 := ⟨Tryz.f77.name, zk, func77.trans (congrArg some zk)⟩
 t0 := underlying0
 a0 := Tryz.isAgg0
 z0 := Tryz.sizeOf0
 v0 := Tryz.zeroValue0
 t3 := underlying3
 a3 := Tryz.isAgg3
 z3 := Tryz.sizeOf3
 v3 := Tryz.zeroValue3
 t4 := underlying4
 a4 := Tryz.isAgg4
 z4 := Tryz.sizeOf4
 v4 := Tryz.zeroValue4
 t22 := underlying97
 a22 := Tryz.isAgg97
 z22 := Tryz.sizeOf97
 v22 := Tryz.zeroValue97
 a23 := Tryz.isAgg5
 z23 := Tryz.sizeOf5 }
theorem xC : Elem Tryz.prog 23 21 1 4 := ⟨underlying23, zk, rfl⟩
theorem el97 : Elem Tryz.prog 97 5 1 1 := ⟨underlying97, zk, rfl⟩
theorem c_words_Blank (r : Int) (w : World) :
  Calls Tryz.prog 147 #[(I3 r)] w (Ret fun v w' => v = (.bool (blankB r)) ∧ Below w.heap.size w w') := by
 refine wO 23 func147 rfl ?_
 have a := Below.refl w.heap.size w
 refine wR (zK (nW (wR (zJ (nQ (yF (yC (wR (qM .i32 r 9 ?_ ?_)))))))))
 ·intro z
  exact zK (nQ (zT (zW (zD (zT (wR (zK (nQ (yA (zR (zI (yK [(.bool true)] ⟨eb (by simp only [blankB]; simp [*] <;> omega), a⟩))))))))))))
 intro h2
 refine zK (nQ (zF (wR (qM .i32 r 11 ?_ ?_))))
 ·intro h3
  exact zK (nQ (zT (zW (zD (zT (wR (zK (nQ (yA (zR (zI (yK [(.bool true)] ⟨eb (by simp only [blankB]; simp [*] <;> omega), a⟩))))))))))))
 intro y
 refine zK (nQ (zF (wR (qM .i32 r 12 ?_ ?_))))
 ·intro h5
  exact zK (nQ (zT (zW (zD (zT (wR (zK (nQ (yA (zR (zI (yK [(.bool true)] ⟨eb (by simp only [blankB]; simp [*] <;> omega), a⟩))))))))))))
 intro h6
 refine zK (nQ (zF (wR (qM .i32 r 32 ?_ ?_))))
 ·intro h7
  exact zK (nQ (zT (zW (zD (zT (wR (zK (nQ (yA (zR (zI (yK [(.bool true)] ⟨eb (by simp only [blankB]; simp [*] <;> omega), a⟩))))))))))))
 intro h8
 refine zK (nQ (zF (wR (qM .i32 r 133 ?_ ?_))))
 ·intro h9
  exact zK (nQ (zT (zW (zD (zT (wR (zK (nQ (yA (zR (zI (yK [(.bool true)] ⟨eb (by simp only [blankB]; simp [*] <;> omega), a⟩))))))))))))
 intro q
 refine zK (nQ (zF (wR (qM .i32 r 160 ?_ ?_))))
 ·intro g
  exact zK (nQ (zT (zW (zD (zT (wR (zK (nQ (yA (zR (zI (yK [(.bool true)] ⟨eb (by simp only [blankB]; simp [*] <;> omega), a⟩))))))))))))
 intro d
 refine zK (nQ (zF (wR (qM .i32 r 5760 ?_ ?_))))
 ·intro h
  exact zK (nQ (zT (zW (zD (zT (wR (zK (nQ (yA (zR (zI (yK [(.bool true)] ⟨eb (by simp only [blankB]; simp [*] <;> omega), a⟩))))))))))))
 intro t
 refine zK (nQ (zF (wR (qM .i32 r 8232 ?_ ?_))))
 ·intro f
  exact zK (nQ (zT (zW (zD (zT (wR (zK (nQ (yA (zR (zI (yK [(.bool true)] ⟨eb (by simp only [blankB]; simp [*] <;> omega), a⟩))))))))))))
 intro o
 refine zK (nQ (zF (wR (qM .i32 r 8233 ?_ ?_))))
 ·intro b
  exact zK (nQ (zT (zW (zD (zT (wR (zK (nQ (yA (zR (zI (yK [(.bool true)] ⟨eb (by simp only [blankB]; simp [*] <;> omega), a⟩))))))))))))
 intro e
 refine zK (nQ (zF (wR (qM .i32 r 8239 ?_ ?_))))
 ·intro j
  exact zK (nQ (zT (zW (zD (zT (wR (zK (nQ (yA (zR (zI (yK [(.bool true)] ⟨eb (by simp only [blankB]; simp [*] <;> omega), a⟩))))))))))))
 intro s
 refine zK (nQ (zF (wR (qM .i32 r 8287 ?_ ?_))))
 ·intro k
  exact zK (nQ (zT (zW (zD (zT (wR (zK (nQ (yA (zR (zI (yK [(.bool true)] ⟨eb (by simp only [blankB]; simp [*] <;> omega), a⟩))))))))))))
 intro m
 refine zK (nQ (zF (zY (qM .i32 r 12288 ?_ ?_))))
 ·intro c
  exact zK (nQ (zT (wR (zK (nQ (yA (zR (zI (yK [(.bool true)] ⟨eb (by simp only [blankB]; simp [*] <;> omega), a⟩)))))))))
 intro i
 refine zK (nQ (zF (zW (zL (zD (wR (zJ (zGe .i32 r 8192 ?_ ?_))))))))
 ·intro u
  refine zJ (zw (zJ (zw (zLe .i32 r 8202 ?_ ?_))))
  ·intro p
   exact xS (zK (nQ (yA (yK [(.bool true)] ⟨eb (by simp only [blankB]; simp [*] <;> omega), a⟩))))
  intro n
  exact xS (zK (nQ (yA (yK [(.bool false)] ⟨eb (by simp only [blankB]; simp [*] <;> omega), a⟩))))
 intro l
 exact zJ (zs (zs (xY (zK (nQ (yA (yK [(.bool false)] ⟨eb (by simp only [blankB]; simp [*] <;> omega), a⟩)))))))
theorem c_utf_Encode (a : Value) (l : List (Int)) (w : World) (b : Rd w encI32 a l) :
  Calls Tryz.prog 148 #[a] w (Ret fun v w' => v = (S (encL l)) ∧ Below w.heap.size w w') := by
 refine wO 5 func148 rfl ?_
 have c := Below.refl w.heap.size w
 exact wR (zK (nR (zJ (L_runesStr a l underlying23 underlying21 underlying9 zk b (zK (nQ (yA (yK [(S (encL l))] ⟨congrArg S (by first | rfl | (simp_all; done) | omega), c⟩))))))))
theorem c_words_Loose (s : List UInt8) (w : World) (hs : s.length ≤ 1073741824) :
  Calls Tryz.prog 124 #[(S s)] w (Ret fun v w' => v = (S (looseS s)) ∧ Below w.heap.size w w') := by
 refine wO 35 func124 rfl ?_
 have h := Below.refl w.heap.size w
 refine wR (zK (nR (zK (nW (wR (zJ (L_range s underlying9 zk ?_)))))))
 intro b1 w2 t
 have j := t.ge h.size
 have a := t.here
 refine nQ (yF ?_)
 replace h := h.tr t.below
 refine xG (fun m s0 w0 => ∃ (pos : Nat) (i : List Int) (k : Value), (m = s.length - pos) ∧ (s0.ds = []) ∧ ([2, 7, 3].map s0.f = [(S []), (pt b1 0), k]) ∧ (Row w0 w.heap.size 21 1 encI32 k i) ∧ (w0.heap[b1]? = some (.stringIter ⟨(s).toArray⟩ pos)) ∧ (Below w.heap.size w w0) ∧ (pos ≤ s.length) ∧ (i.length ≤ pos) ∧ (i ++ looseL (runesFrom s pos) = looseL (runesFrom s 0))) _ ⟨0, [], (.slice none 0 0), rfl, zk, zk, Row.nil _ _ _ _ _, a, h, by omega, by simp, by simp⟩ ?_
 rintro m4 s5 w6 ⟨pos, i, k, hm, n, aj, c, a, h, i1, i2, u⟩
 refine yZ aj (wR ?_)
 rcases Nat.lt_or_ge pos (s).length with g | o
 ·refine L_next s b1 pos zk a g ?_
  intro b w7 d l
  replace c := c.wrote l (c.ne a zi)
  replace a := l.here
  have := dec_pos s pos; have := dec_fits s pos g; have := dec_le s pos
  have ab : 0 ≤ b := by omega
  have ad : b ≤ 2147483647 := by omega
  refine zr (.bool true) (nW (zT (zW (zD (yF (wR (zr (I3 b) (zK (nW (wR (zJ (zc (c_words_Blank b _ ) ?_))))))))))))
  rintro _ w9 ⟨rfl, e⟩
  refine yN (blankB b) ?_ ?_
  ·intro an
   refine zJ (zs (zs (xS (zJ (zs (zs (xS (nQ (zT (yU (zV (yI ?_))))))))))))
   replace h := (h.trans (l.below j)).tr e
   replace a := zB a e
   replace c := c.below e
   refine zD ⟨_, zo, (pos + (dec s pos).2), i, k, rfl, n, zk, c, a, h, zo, ?_, ?_⟩
   ·(try simp only [List.length_append, List.length_cons, List.length_nil]); omega
   rw [← u, qB g, ← d, vN]; clear d; simp [dropW, *]; try (unfold lowerI; split <;> omega)
  intro au
  refine zJ (zw (zJ (zw (qM .i32 b 95 ?_ ?_))))
  ·intro a0
   refine xY (zJ (zs (zs (xS (nQ (zT (yU (zV (yI ?_)))))))))
   replace h := (h.trans (l.below j)).tr e
   replace a := zB a e
   replace c := c.below e
   refine zD ⟨_, zo, (pos + (dec s pos).2), i, k, rfl, n, zk, c, a, h, zo, ?_, ?_⟩
   ·(try simp only [List.length_append, List.length_cons, List.length_nil]); omega
   rw [← u, qB g, ← d, vN]; clear d; simp [dropW, *]; try (unfold lowerI; split <;> omega)
  intro ar
  refine xY (zJ (zw (zJ (zw (qM .i32 b 45 ?_ ?_)))))
  ·intro ay
   refine xY (nQ (zT (yU (zV (yI ?_)))))
   replace h := (h.trans (l.below j)).tr e
   replace a := zB a e
   replace c := c.below e
   refine zD ⟨_, zo, (pos + (dec s pos).2), i, k, rfl, n, zk, c, a, h, zo, ?_, ?_⟩
   ·(try simp only [List.length_append, List.length_cons, List.length_nil]); omega
   rw [← u, qB g, ← d, vN]; clear d; simp [dropW, *]; try (unfold lowerI; split <;> omega)
  intro am
  refine xY (nQ (zF (zW (zD (yC (wR (zJ (zGe .i32 b 65 ?_ ?_))))))))
  ·intro aq
   refine zJ (zw (zJ (zw (zLe .i32 b 90 ?_ ?_))))
   ·intro av
    replace h := (h.trans (l.below j)).tr e
    replace c := c.below e
    refine xS (nQ (zT (zY (zJ (wP b 32 (b + 32) rfl zk zk (wrap_i32 _ zh zh) (zK (nQ (zY (zJ (zJ (qE xC w.heap.size k i (b + 32) h.size c zo zk rfl rfl zk rfl zk zk ?_)))))))))))
    intro al ax ac q af
    replace h := h.tg h.size q c
    replace a := zB a e
    replace a := yO a q (c.ne a zi)
    replace c := ac
    refine zK (zS (zL (zD ⟨_, zo, (pos + (dec s pos).2), (i ++ [(b + 32)]), al, rfl, n, zk, c, a, h, zo, ?_, ?_⟩)))
    ·(try simp only [List.length_append, List.length_cons, List.length_nil]); omega
    rw [← u, qB g, ← d, vN]; clear d; simp [dropW, *]; try (unfold lowerI; split <;> omega)
   intro a1
   replace h := (h.trans (l.below j)).tr e
   replace c := c.below e
   refine xS (nQ (zF (zW (zD (zY (zJ (zJ (qE xC w.heap.size k i b h.size c zo zk rfl rfl zk rfl zk zk ?_))))))))
   intro ah ap y r ag
   replace h := h.tg h.size r c
   replace a := zB a e
   replace a := yO a r (c.ne a zi)
   replace c := y
   refine zK (zS (zL (zD ⟨_, zo, (pos + (dec s pos).2), (i ++ [b]), ah, rfl, n, zk, c, a, h, zo, ?_, ?_⟩)))
   ·(try simp only [List.length_append, List.length_cons, List.length_nil]); omega
   rw [← u, qB g, ← d, vN]; clear d; simp [dropW, *]; try (unfold lowerI; split <;> omega)
  intro aw
  replace h := (h.trans (l.below j)).tr e
  replace c := c.below e
  refine zJ (zs (zs (xY (nQ (zF (zW (zD (zY (zJ (zJ (qE xC w.heap.size k i b h.size c zo zk rfl rfl zk rfl zk zk ?_)))))))))))
  intro ai ao aa p ak
  replace h := h.tg h.size p c
  replace a := zB a e
  replace a := yO a p (c.ne a zi)
  replace c := aa
  refine zK (zS (zL (zD ⟨_, zo, (pos + (dec s pos).2), (i ++ [b]), ai, rfl, n, zk, c, a, h, zo, ?_, ?_⟩)))
  ·(try simp only [List.length_append, List.length_cons, List.length_nil]); omega
  rw [← u, qB g, ← d, vN]; clear d; simp [dropW, *]; try (unfold lowerI; split <;> omega)
 refine L_nextEnd s b1 pos zk a o (zr (.bool false) (nW (zF (yU (zV (zV (yI (zD (wR (zJ (zc (c_utf_Encode k i _ c.rd) ?_)))))))))))
 rintro _ az ⟨rfl, z⟩
 replace h := h.tr z
 exact zK (nQ (yA (yK [(S (encL i))] (hd := n) ⟨congrArg S (by rw [looseS, ← u, runesFrom_end o]; simp [looseL]), h⟩)))
theorem c_words_Alike (a : List UInt8) (b : List UInt8) (w : World) (ha : a.length ≤ 1073741824) (hb_ : b.length ≤ 1073741824) :
  Calls Tryz.prog 104 #[(S a), (S b)] w (Ret fun v w' => v = (.bool (alikeB a b)) ∧ Below w.heap.size w w') := by
 refine wO 10 func104 rfl ?_
 have c := Below.refl w.heap.size w
 refine wR (zK (nR (zJ (zc (c_words_Loose a _ zo) ?_))))
 rintro _ f ⟨rfl, d⟩
 refine zJ (zc (c_words_Loose b _ zo) ?_)
 rintro _ i ⟨rfl, e⟩
 refine L_seq (looseS a) (looseS b) rfl zk zk ?_ ?_
 ·intro h
  replace c := (c.tr d).tr e
  exact zK (nQ (yA (yK [(.bool true)] ⟨eb (by simp [alikeB, *]), c⟩)))
 intro g
 replace c := (c.tr d).tr e
 exact zK (nQ (yA (yK [(.bool false)] ⟨eb (by simp [alikeB, *]), c⟩)))
theorem c_points_Hex (s : List UInt8) (w : World) (hs : s.length ≤ 1073741824) :
  Calls Tryz.prog 75 #[(S s)] w (Ret fun v w' => v = (.tuple #[(I3 ((hexF s).1)), (I6 ((hexF s).2))]) ∧ Below w.heap.size w w') := by
 refine wO 45 func75 rfl ?_
 have c := Below.refl w.heap.size w
 refine wR (zK (zK (nW (wR (zJ (zsl 9 s (nLt ((s).length) 4 ?_ ?_)))))))
 ·intro h1
  exact zJ (zs (zs (zs (xS (zJ (zs (zs (zs (zs (zs (zs (zs (zs (xS (nQ (zT (wR (zK (zK (nQ (yA (zI (yK [(I3 0), (I6 40)] ⟨xQ (e3 (by (rw [hexF_len zo]; done))) (e6 (by (rw [hexF_len zo]; done))), c⟩)))))))))))))))))))))))
 intro h2
 refine zJ (zw (zJ (zw (zsl 9 s (zw (nGt ((s).length) 6 ?_ ?_))))))
 ·intro h3
  exact xY (zJ (zs (zs (zs (zs (zs (zs (zs (zs (xS (nQ (zT (wR (zK (zK (nQ (yA (zI (yK [(I3 0), (I6 40)] ⟨xQ (e3 (by (rw [hexF_len zo]; done))) (e6 (by (rw [hexF_len zo]; done))), c⟩)))))))))))))))))))
 intro h4
 refine xY (zJ (zw (zJ (zw (zsl 9 s (zw (nGt ((s).length) 4 ?_ ?_)))))))
 ·intro h5
  refine zw (zJ (zw (zJ (zw ?_))))
  have q := yB s 0 zo; obtain ⟨h, ad⟩ := q
  have := h.toNat_lt
  have r := digitV_range h.toNat
  have e := ibF_tab h
  refine L_sindex (k := .i64) s 0 h underlying9 ad zk zk (zw (vS .u8 ((h.toNat : Nat) : Int) ((48 : Nat) : Int) (h.toNat = 48) rfl (cmpN_eq h.toNat 48) zk zk ?_ ?_))
  ·intro h8
   replace h8 : h.toNat = 48 := by omega
   exact zw (xS (xY (nQ (zT (wR (zK (zK (nQ (yA (zI (yK [(I3 0), (I6 40)] ⟨xQ (e3 (by (rw [hexF_zero zo za zo]; done))) (e6 (by (rw [hexF_zero zo za zo]; done))), c⟩)))))))))))
  intro h9
  replace h9 : h.toNat ≠ 48 := by omega
  refine zw (xS (xY (nQ (zF (zW (zD (wR (zK (nW (wR (zJ (zsl 9 s (zJ (nQ (yF (xG (fun m s0 w0 => ∃ (i : Nat) (n : Nat), (m = s.length - i) ∧ (s0.ds = []) ∧ ([0, 26, 4, 27].map s0.f = [(S s), (N6 ((s).length)), (I3 ((n : Nat) : Int)), (N6 i)]) ∧ (Below w.heap.size w w0) ∧ (i ≤ s.length) ∧ (n < 16 ^ i) ∧ (hexV (s.drop i) n = hexV s 0)) _ ⟨0, 0, rfl, zk, zk, c, by omega, by decide, rfl⟩ ?_))))))))))))))))
  rintro av az a1 ⟨i, n, hm, d, p, c, i1, o, g⟩
  refine yZ p ?_
  have ac : i ≤ 5 → n < 1048576 := pow16 o
  have aa : i ≤ 6 → n < 16777216 := pow166 o
  refine wR (nLt i ((s).length) ?_ ?_)
  ·intro am
   refine nW (zT (zW (zD (yC (yF (wR (zJ (zK (nR (zJ (zJ ?_)))))))))))
   have q := yB s i zo; obtain ⟨b, t⟩ := q
   have := b.toNat_lt
   have r := digitV_range b.toNat
   have e := ibF_tab b
   refine L_sindex (k := .i64) s i b underlying9 t zk zk (zc (wZ ([48, 49, 50, 51, 52, 53, 54, 55, 56, 57, 65, 66, 67, 68, 69, 70] : List UInt8) ((b.toNat : Nat) : Int) _ ) ?_)
   rintro _ ao ⟨rfl, j⟩
   have := ib_range ([48, 49, 50, 51, 52, 53, 54, 55, 56, 57, 65, 66, 67, 68, 69, 70] : List UInt8) ((b.toNat : Nat) : Int)
   refine zK (nW (wR (zJ (zLt .i64 (ibF ([48, 49, 50, 51, 52, 53, 54, 55, 56, 57, 65, 66, 67, 68, 69, 70] : List UInt8) ((b.toNat : Nat) : Int)) 0 ?_ ?_))))
   ·intro ap
    have c := c.tr j
    exact nQ (zT (wR (zK (zK (nQ (yA (zI (zR (zI (zI (zR (zI (yK [(I3 0), (I6 40)] (hd := d) ⟨xQ (e3 (by (rw [hexF_bad g za zo]; done))) (e6 (by (rw [hexF_bad g za zo]; done))), c⟩)))))))))))))
   intro ax
   refine nQ (zF (zW (zD (zY (zJ (L_shl (k := .i32) (yk := .u64) ((n : Nat) : Int) (((16 * n) : Nat) : Int) 4 16 rfl zk zk zk (by rw [wrap_i32 _ zo zo]; omega) (zJ (L_conv (k := .i64) (ibF ([48, 49, 50, 51, 52, 53, 54, 55, 56, 57, 65, 66, 67, 68, 69, 70] : List UInt8) ((b.toNat : Nat) : Int)) (ibF ([48, 49, 50, 51, 52, 53, 54, 55, 56, 57, 65, 66, 67, 68, 69, 70] : List UInt8) ((b.toNat : Nat) : Int)) zk underlying21 zk (wrap_i32 _ zo zo) (L_orD (((16 * n) : Nat) : Int) (ibF ([48, 49, 50, 51, 52, 53, 54, 55, 56, 57, 65, 66, 67, 68, 69, 70] : List UInt8) ((b.toNat : Nat) : Int)) n ((ibF ([48, 49, 50, 51, 52, 53, 54, 55, 56, 57, 65, 66, 67, 68, 69, 70] : List UInt8) ((b.toNat : Nat) : Int)).toNat) zo zo zk zk (zK (zS (zL (zD (zY (xR i 1 (zJ (zS ?_)))))))))))))))))
   have c := c.tr j
   refine zD ⟨_, zo, (i + 1), (16 * n + ((ibF ([48, 49, 50, 51, 52, 53, 54, 55, 56, 57, 65, 66, 67, 68, 69, 70] : List UInt8) ((b.toNat : Nat) : Int)).toNat)), rfl, d, zk, c, zo, ?_, ?_⟩
   ·rw [e]; exact pow16s o zo
   rw [e]; exact hexV_step g za zo
  intro aq
  refine nW (zF (yU (zV (zV (yI (zD (yC (wR (zJ (vS .i32 ((n : Nat) : Int) ((1114111 : Nat) : Int) (1114111 < n) rfl (cmpN_gt n 1114111) zk zk ?_ ?_))))))))))
  ·intro ab
   replace ab : 1114111 < n := by omega
   exact nQ (zT (wR (zK (zK (nQ (yA (zI (yK [(I3 0), (I6 40)] (hd := d) ⟨xQ (e3 (by (rw [hexF_big (hexV_end g zo) zo]; done))) (e6 (by (rw [hexF_big (hexV_end g zo) zo]; done))), c⟩))))))))
  intro y
  replace y : n ≤ 1114111 := by omega
  exact nQ (zF (zW (zD (wR (zJ (zK (zK (nQ (yA (yK [(I3 ((n : Nat) : Int)), (I6 0)] (hd := d) ⟨xQ (e3 (by (rw [hexF_ok (hexV_end g zo) zo zo zo (.inr ⟨_, by assumption, by omega⟩)]; done))) (e6 (by (rw [hexF_ok (hexV_end g zo) zo zo zo (.inr ⟨_, by assumption, by omega⟩)]; done))), c⟩))))))))))
 intro an
 refine zw (zJ (zs (zs (zs (zw (xY (xY (nQ (zF (zW (zD (wR (zK (nW (wR (zJ (zsl 9 s (zJ (nQ (yF (xG (fun m s0 w0 => ∃ (i : Nat) (n : Nat), (m = s.length - i) ∧ (s0.ds = []) ∧ ([0, 26, 4, 27].map s0.f = [(S s), (N6 ((s).length)), (I3 ((n : Nat) : Int)), (N6 i)]) ∧ (Below w.heap.size w w0) ∧ (i ≤ s.length) ∧ (n < 16 ^ i) ∧ (hexV (s.drop i) n = hexV s 0)) _ ⟨0, 0, rfl, zk, zk, c, by omega, by decide, rfl⟩ ?_)))))))))))))))))))))
 rintro ag ar aj ⟨i, n, hm, d, p, c, i1, o, g⟩
 refine yZ p ?_
 have ac : i ≤ 5 → n < 1048576 := pow16 o
 have aa : i ≤ 6 → n < 16777216 := pow166 o
 refine wR (nLt i ((s).length) ?_ ?_)
 ·intro au
  refine nW (zT (zW (zD (yC (yF (wR (zJ (zK (nR (zJ (zJ ?_)))))))))))
  have q := yB s i zo; obtain ⟨a, u⟩ := q
  have := a.toNat_lt
  have r := digitV_range a.toNat
  have e := ibF_tab a
  refine L_sindex (k := .i64) s i a underlying9 u zk zk (zc (wZ ([48, 49, 50, 51, 52, 53, 54, 55, 56, 57, 65, 66, 67, 68, 69, 70] : List UInt8) ((a.toNat : Nat) : Int) _ ) ?_)
  rintro _ a0 ⟨rfl, l⟩
  have := ib_range ([48, 49, 50, 51, 52, 53, 54, 55, 56, 57, 65, 66, 67, 68, 69, 70] : List UInt8) ((a.toNat : Nat) : Int)
  refine zK (nW (wR (zJ (zLt .i64 (ibF ([48, 49, 50, 51, 52, 53, 54, 55, 56, 57, 65, 66, 67, 68, 69, 70] : List UInt8) ((a.toNat : Nat) : Int)) 0 ?_ ?_))))
  ·intro ay
   have c := c.tr l
   exact nQ (zT (wR (zK (zK (nQ (yA (zI (zR (zI (zI (zR (zI (yK [(I3 0), (I6 40)] (hd := d) ⟨xQ (e3 (by (rw [hexF_bad g za zo]; done))) (e6 (by (rw [hexF_bad g za zo]; done))), c⟩)))))))))))))
  intro af
  refine nQ (zF (zW (zD (zY (zJ (L_shl (k := .i32) (yk := .u64) ((n : Nat) : Int) (((16 * n) : Nat) : Int) 4 16 rfl zk zk zk (by rw [wrap_i32 _ zo zo]; omega) (zJ (L_conv (k := .i64) (ibF ([48, 49, 50, 51, 52, 53, 54, 55, 56, 57, 65, 66, 67, 68, 69, 70] : List UInt8) ((a.toNat : Nat) : Int)) (ibF ([48, 49, 50, 51, 52, 53, 54, 55, 56, 57, 65, 66, 67, 68, 69, 70] : List UInt8) ((a.toNat : Nat) : Int)) zk underlying21 zk (wrap_i32 _ zo zo) (L_orD (((16 * n) : Nat) : Int) (ibF ([48, 49, 50, 51, 52, 53, 54, 55, 56, 57, 65, 66, 67, 68, 69, 70] : List UInt8) ((a.toNat : Nat) : Int)) n ((ibF ([48, 49, 50, 51, 52, 53, 54, 55, 56, 57, 65, 66, 67, 68, 69, 70] : List UInt8) ((a.toNat : Nat) : Int)).toNat) zo zo zk zk (zK (zS (zL (zD (zY (xR i 1 (zJ (zS ?_)))))))))))))))))
  have c := c.tr l
  refine zD ⟨_, zo, (i + 1), (16 * n + ((ibF ([48, 49, 50, 51, 52, 53, 54, 55, 56, 57, 65, 66, 67, 68, 69, 70] : List UInt8) ((a.toNat : Nat) : Int)).toNat)), rfl, d, zk, c, zo, ?_, ?_⟩
  ·rw [e]; exact pow16s o zo
  rw [e]; exact hexV_step g za zo
 intro ak
 refine nW (zF (yU (zV (zV (yI (zD (yC (wR (zJ (vS .i32 ((n : Nat) : Int) ((1114111 : Nat) : Int) (1114111 < n) rfl (cmpN_gt n 1114111) zk zk ?_ ?_))))))))))
 ·intro z
  replace z : 1114111 < n := by omega
  exact nQ (zT (wR (zK (zK (nQ (yA (zI (yK [(I3 0), (I6 40)] (hd := d) ⟨xQ (e3 (by (exfalso; omega))) (e6 (by (exfalso; omega))), c⟩))))))))
 intro ae
 replace ae : n ≤ 1114111 := by omega
 exact nQ (zF (zW (zD (wR (zJ (zK (zK (nQ (yA (yK [(I3 ((n : Nat) : Int)), (I6 0)] (hd := d) ⟨xQ (e3 (by (rw [hexF_ok (hexV_end g zo) zo zo zo (.inl zo)]; done))) (e6 (by (rw [hexF_ok (hexV_end g zo) zo zo zo (.inl zo)]; done))), c⟩))))))))))
theorem c_slices_Reverse {B_ E_ : Nat} (a : Value) (s : List (Int)) (w : World) (b : Row w B_ E_ 1 encU8 a s)  :
  Calls Tryz.prog 77 #[a] w (Ret fun v w' => v = (.tuple #[]) ∧ Row w' B_ E_ 1 encU8 a (List.reverse s) ∧ w.grownBy w' (Value.ownBlock a)) :=
 reverse_contract (fun x : Int => Value.int .u8 x) zj (AnyE.slices_Reverse_empty laysRev) (AnyE.slices_Reverse laysRev _ zj) a s w b
theorem c_points_Show (r : Int) (w : World) :
  Calls Tryz.prog 42 #[(I3 r)] w (Ret fun v w' => v = (.tuple #[(S ((showF r).1)), (I6 ((showF r).2))]) ∧ Below w.heap.size w w') := by
 refine wO 32 func42 rfl ?_
 have c := Below.refl w.heap.size w
 refine wR (zK (zK (nW (wR (zJ (zLt .i32 r 0 ?_ ?_))))))
 ·intro h1
  exact zJ (zs (zs (xS (nQ (zT (wR (zK (zK (nQ (yA (zI (yK [(S []), (I6 40)] ⟨xQ (congrArg S (by (rw [vO zo]; done))) (e6 (by (rw [vO zo]; done))), c⟩))))))))))))
 intro h2
 refine zJ (zw (zJ (zw (zGt .i32 r 1114111 ?_ ?_))))
 ·intro h3
  exact xY (nQ (zT (wR (zK (zK (nQ (yA (zI (yK [(S []), (I6 40)] ⟨xQ (congrArg S (by (rw [vO zo]; done))) (e6 (by (rw [vO zo]; done))), c⟩)))))))))
 intro h4
 refine xY (nQ (zF (zW (zD (wR (zK (nW (wR (zJ (zK (nQ (yF (xG (fun m s0 w0 => ∃ (a : List Int) (z : Int) (d : Value), (m = 10 - a.length) ∧ (s0.ds = []) ∧ ([2, 3, 4, 5].map s0.f = [(S []), (I6 0), d, (I3 z)]) ∧ (Row w0 w.heap.size 5 1 encU8 d a) ∧ (Below w.heap.size w w0) ∧ (a.length ≤ cntD r.toNat) ∧ (z = ((r.toNat / 16 ^ a.length : Nat) : Int)) ∧ (a = lowB (digsD r.toNat a.length))) _ ⟨[], r, (.slice none 0 0), rfl, zk, zk, Row.nil _ _ _ _ _, c, Nat.zero_le _, by simp; omega, rfl⟩ ?_)))))))))))))
 rintro m5 s6 w7 ⟨a, z, d, hm, g, ad, b, c, i1, h, i⟩
 refine yZ ad ?_
 have ah := cntD_le r.toNat
 have am := show_factsR i1 h zo
 refine yC (wR (zJ (zGt .i32 z 0 ?_ ?_)))
 ·intro h8
  refine zJ (zs (zs (zs (xS (nQ (zT (zW (zD (yC (yF (zY (zJ (zJ (L_and15 z z.toNat zo zk zk ?_))))))))))))))
  have hz := yB ([48, 49, 50, 51, 52, 53, 54, 55, 56, 57, 65, 66, 67, 68, 69, 70] : List UInt8) (z.toNat % 16) (by (rw [show (([48, 49, 50, 51, 52, 53, 54, 55, 56, 57, 65, 66, 67, 68, 69, 70] : List UInt8)).length = 16 from rfl]; omega)); obtain ⟨u, j⟩ := hz
  have := u.toNat_lt
  refine L_sindex (k := .i32) ([48, 49, 50, 51, 52, 53, 54, 55, 56, 57, 65, 66, 67, 68, 69, 70] : List UInt8) (z.toNat % 16) u underlying9 j zk zk (qE el97 w.heap.size d a ((u.toNat : Nat) : Int) c.size b zo zk rfl rfl zk rfl zk zk ?_)
  intro ae an o q ab
  have c := c.tg c.size q b
  have b := o
  refine zK (zS (zL (zD (zY (zJ (L_shr (k := .i32) (yk := .u64) z 4 16 rfl zk zk zk (zK (zS (zD ⟨_, ?_, (a ++ [((u.toNat : Nat) : Int)]), (z / 16), ae, rfl, g, zk, b, c, ?_, ?_, ?_⟩)))))))))
  ·simp; omega
  ·simp; omega
  ·exact (show_stepR h i za).1
  exact (show_stepR h i za).2
 intro ak
 refine zJ (zw (zJ (zw (zln underlying97 (b.rd).len (zw (nLt ((a).length) 4 ?_ ?_))))))
 ·intro ag
  refine xY (nQ (zT (zW (zD (yC (yF (zY (zJ (zJ (L_and15 z z.toNat zo zk zk ?_))))))))))
  have hz := yB ([48, 49, 50, 51, 52, 53, 54, 55, 56, 57, 65, 66, 67, 68, 69, 70] : List UInt8) (z.toNat % 16) (by (rw [show (([48, 49, 50, 51, 52, 53, 54, 55, 56, 57, 65, 66, 67, 68, 69, 70] : List UInt8)).length = 16 from rfl]; omega)); obtain ⟨e, s⟩ := hz
  have := e.toNat_lt
  refine L_sindex (k := .i32) ([48, 49, 50, 51, 52, 53, 54, 55, 56, 57, 65, 66, 67, 68, 69, 70] : List UInt8) (z.toNat % 16) e underlying9 s zk zk (qE el97 w.heap.size d a ((e.toNat : Nat) : Int) c.size b zo zk rfl rfl zk rfl zk zk ?_)
  intro af aj p n y
  have c := c.tg c.size n b
  have b := p
  refine zK (zS (zL (zD (zY (zJ (L_shr (k := .i32) (yk := .u64) z 4 16 rfl zk zk zk (zK (zS (zD ⟨_, ?_, (a ++ [((e.toNat : Nat) : Int)]), (z / 16), af, rfl, g, zk, b, c, ?_, ?_, ?_⟩)))))))))
  ·simp; omega
  ·simp; omega
  ·exact (show_stepR h i za).1
  exact (show_stepR h i za).2
 intro al
 refine xY (nQ (zF (yU (zV (zV (yI (zD (wR (zJ (zc (c_slices_Reverse d a _ b ) ?_))))))))))
 rintro _ ai ⟨rfl, t, l⟩
 have c := c.tg c.size l b
 have b := t
 exact nR (zJ (L_bytesStr d (List.reverse a) underlying97 underlying5 underlying9 zk b.rd (zK (zK (nQ (yA (yK [(S (bytesI (List.reverse a))), (I6 0)] (hd := g) ⟨xQ (congrArg S (by (rw [showF_ok zo zo]; first | done | exact show_endR i1 h i zo zo))) (e6 (by (rw [showF_ok zo zo]; first | done | exact show_endR i1 h i zo zo))), c⟩)))))))
end Go.Proofs.YtddnhlobnembaaaGreatDoor
end

/- === FKl === -/
section
/- FKl: a strings.Builder of the call's own, carried over the steps of a walk; its methods. My own text, over the kit's shelf. -/
namespace Go.FK
open Go Go.RowKit
def Bld (T E B b : Nat) (l : List UInt8) (w : World) : Prop := Lib.IsBuilderF T E B b (Lib.byteCells l) w
theorem Bld.at {T E B b : Nat} {l : List UInt8} {w : World} (h : Bld T E B b l w) : B ≤ b ∧ ∃ p v, w.heap[b]? = some (.cells #[p, v] T (0, 0)) := by
 rcases h with ⟨hB, v, hb, _⟩ | ⟨hB, v, hb, _⟩
 ·exact ⟨hB, _, v, hb⟩
 ·exact ⟨hB, _, v, hb⟩
theorem Bld.of {T E B b : Nat} {w : World} (hb : w.heap[b]? = some (.cells [Value.pointer none, Value.slice none 0 0].toArray T (0, 0))) (hB : B ≤ b) : Bld T E B b [] w := by
 refine .inl ⟨hB, .slice none 0 0, hb, ?_, by simp [Value.ownBlock]⟩
 exact World.ownsRowF_of (World.ownsRow_nil _ _ _ _)
theorem Bld.lt {T E B b : Nat} {l : List UInt8} {w : World} (h : Bld T E B b l w) : b < w.heap.size := by
 obtain ⟨_, p, v, hb⟩ := h.at
 exact yE hb
theorem bldAt_same {T E B b : Nat} {p : Value} {bs : List Value} {w w' : World} (h : Lib.BuilderAtF T E B b p bs w) (hk : ∀ k : Nat, (∃ cs X fz, w.heap[k]? = some (.cells cs X fz) ∧ (X = T ∨ X = E)) → w'.heap[k]? = w.heap[k]?) : Lib.BuilderAtF T E B b p bs w' := by
 obtain ⟨hB, v, hb, hown, hne⟩ := h
 refine ⟨hB, v, (hk b ⟨_, _, _, hb, .inl rfl⟩).trans hb, ⟨hown.1, ?_⟩, hne⟩
 rcases hown.2 with hn | ⟨g, cap, cur, fz, hv, hbg, hg, rest⟩
 ·exact .inl hn
 ·exact .inr ⟨g, cap, cur, fz, hv, hbg, (hk g ⟨_, _, _, hg, .inr rfl⟩).trans hg, rest⟩
theorem Bld.same {T E B b : Nat} {l : List UInt8} {w w' : World} (h : Bld T E B b l w) (hk : ∀ k : Nat, (∃ cs X fz, w.heap[k]? = some (.cells cs X fz) ∧ (X = T ∨ X = E)) → w'.heap[k]? = w.heap[k]?) : Bld T E B b l w' :=
 h.elim (fun x => .inl (bldAt_same x hk)) (fun x => .inr (bldAt_same x hk))
theorem Bld.wrote {T E B b k : Nat} {l : List UInt8} {w w' : World} {o o0 : Obj} (h : Bld T E B b l w) (hW : Wrote w w' k o) (hk : w.heap[k]? = some o0) (ho : ∀ cs X fz, o0 = .cells cs X fz → X ≠ T ∧ X ≠ E) : Bld T E B b l w' :=
 h.same fun j ⟨cs, X, fz, hj, hX⟩ => hW.other j fun e => by
  subst e
  rw [hk] at hj
  have := ho cs X fz (Option.some.inj hj)
  rcases hX with a | a
  ·exact this.1 a
  ·exact this.2 a
theorem Bld.obj_kept {T E B b k : Nat} {l : List UInt8} {w w' : World} {o : Obj} (h : Bld T E B b l w) (hO : Lib.OthersKept E (some b) w w') (hk : w.heap[k]? = some o) (ho : ∀ cs X fz, o = .cells cs X fz → X ≠ T ∧ X ≠ E) : w'.heap[k]? = some o := by
 refine hO k o hk (fun e => ?_) (fun cs fz e => ?_)
 ·obtain ⟨_, p, v, hb⟩ := h.at
  have e := Option.some.inj e
  subst e
  rw [hb] at hk
  exact (ho _ _ _ (Option.some.inj hk).symm).1 rfl
 ·exact (ho _ _ _ e).2 rfl
theorem bldStr {P : Program} {f : FuncId} {T E B b : Nat} (h1 : ∀ (B b : Nat) (l : List UInt8) (w : World), Lib.IsBuilderF T E B b (Lib.byteCells l) w → B ≤ w.heap.size →
   Calls P f #[.pointer (some ⟨b, 0, none⟩)] w fun e w' => e = .returned (.string ⟨l.toArray⟩) ∧ (Lib.IsBuilderF T E B b (Lib.byteCells l) w' ∧ Below B w w' ∧ Lib.OthersKept E (some b) w w'))
  (l : List UInt8) (w : World) (h : Bld T E B b l w) (hB : B ≤ w.heap.size) :
  Calls P f #[.pointer (some ⟨b, 0, none⟩)] w (Ret fun v w' => v = S l ∧ Bld T E B b l w' ∧ Below B w w' ∧ Lib.OthersKept E (some b) w w') := by
 refine (h1 B b l w h hB).mono ?_
 rintro e w' ⟨rfl, d, c, a⟩
 exact ⟨_, rfl, rfl, d, c, a⟩
end Go.FK
end

/- === FKi === -/
section
/- FKi: regions that draw their order, whose operations have guards. My own text. -/
namespace Go.FK
open Go Go.RowKit
section
variable {P : Program} {n : Nat} {Q : Post} {s : Fm} {w : World} {ops : Array Oper} {fuel : Nat} {listed : Array Bool}
end
section
variable {P : Program} {n : Nat} {Q : Post} {s : Fm} {w : World} {ops : Array Oper} {fuel : Nat} {listed : Array Bool}
def noG (o : Oper) : Oper := { o with guard := none }
end
section
variable {P : Program} {n : Nat} {Q : Post} {s : Fm} {w : World} {ops : Array Oper} {fuel : Nat} {listed : Array Bool}
end
section
variable {P : Program} {n : Nat} {Q : Post} {s : Fm} {w : World} {ops : Array Oper} {fuel : Nat} {listed : Array Bool} {C : World → Prop}
theorem wpIn_quiet {o : Oper} {a : Act} {K : Act → Prop} {K' : Act → World → Prop} {Q' : Exit → Act → World → Prop} (hne : ∀ c, o.op ≠ .defer c) (hw : C w) (h : ∀ a w', C w' → K a → K' a w') (hh : o.quiet P a C K) : o.wpIn (Fw none) 0 P a w K' Q' := by
 obtain ⟨v, j, g⟩ := hh
 have b := j w hw
 unfold Oper.quietAt at b
 unfold Oper.wpIn
 refine ⟨fun _ _ => trivial, ?_⟩
 rw [Oper.semAt_eq _ _ _ hne]
 generalize (execOp a.eval o).run P w = r at *
 cases r with
 | ok m w' =>
  cases m <;> simp only [Oper.quietUpon] at b <;> simp only [Oper.uponIn]
  case value u =>
   obtain ⟨d, i⟩ := b
   rw [d, i]
   exact h _ _ hw g
  case skip =>
   obtain ⟨d, i⟩ := b
   rw [d, ← i]
   exact h _ _ hw g
  case enter f args =>
   obtain ⟨d, hc⟩ := b
   rw [d]
   exact ⟨fun hx => by simp [Fw] at hx, CallsIn.mono (calls_fw.2 hc) fun e w'' ⟨he, hw''⟩ => by subst he; exact h _ _ hw'' g⟩
 | halt x w' => simp only [Oper.quietUpon] at b
theorem opIn_quiet {i : Nat} {a : Act} {K : Act → Prop} {K' : Act → World → Prop} {Q' : Exit → Act → World → Prop} (hd : noDefers ops = true) (hC : C w) (h : ∀ a w', C w' → K a → K' a w') (hh : qOp P ops C i K a) : wpOpIn (Fw none) 0 P ops Q' i K' a w := by
 unfold qOp at hh
 unfold wpOpIn
 cases ho : ops[i]? with
 | none => simp only [ho] at hh ⊢; exact h _ _ hC hh
 | some o =>
  simp only [ho] at hh ⊢
  have hne : ∀ c, o.op ≠ .defer c := qR (List.all_eq_true.1 hd o (by
   have := Array.mem_of_getElem? ho
   simpa using this))
  split
  ·rename_i hw; rw [if_pos hw] at hh; exact wpIn_quiet hne hC h hh
  ·rename_i hw; rw [if_neg hw] at hh; exact ⟨fun _ _ => trivial, h _ _ hC hh⟩
theorem anyIn_quiet {K : Act → Prop} {Q' : Exit → Act → World → Prop} (hd : noDefers ops = true) (hQ : ∀ a w, C w → K a → Q' .normal a w) : ∀ (fuel : Nat) (listed : Array Bool) (a : Act) (w : World), C w →
  wpAnyQ P .any ops C K fuel listed a → wpAnyIn (Fw none) 0 P .any ops Q' fuel listed a w
 | 0, _, _, _, hw, h => ⟨h.1, hQ _ _ hw h.2⟩
 | fuel + 1, _, _, _, hw, h => ⟨fun h0 => hQ _ _ hw (h.1 h0), fun i hi => opIn_quiet hd hw (fun a' w' hw' => anyIn_quiet hd hQ fuel _ a' w' hw') (h.2 i hi)⟩
theorem I_quiet (k : Nat) (hf : Nat.beq (ops.toList.drop k).length fuel = true) (hs : Region.noSelect ops = true) (hd : noDefers ops = true) (hB : Region.lexFrom .any ops fuel k listed = true)
  (h : Lq P n ops w (fun s' => ∀ w', Below w.heap.size w w' → Q .normal s' w') (ops.toList.drop k) s) : Li P n ops Q fuel listed s w := by
 obtain rfl := Nat.eq_of_beq_eq_true hf
 unfold Li
 refine anyIn_quiet (C := fun w' => Below w.heap.size w w') (K := fun a => ∃ s', a = Fm.act n s' ∧ ∀ w', Below w.heap.size w w' → Q .normal s' w') hd ?_ _ _ _ _ (Below.refl _ _) ?_
 ·rintro a w' hw' ⟨s', rfl, hK⟩
  exact ⟨s', rfl, hK w' hw'⟩
 ·unfold Lq at h
  exact wpAnyQ_lex hs _ k _ _ (fun j => by rw [List.getElem?_drop]; simp) hB h
end
section ops
variable {r : Option Nat} {P : Program} {n : Nat} {Q : Post} {s : Fm} {w : World} {ops : Array Oper} {rest : List Oper}
variable {d : Option Tmp} {ty : TypeId} {pos : String} {af : Array Edge}
end ops
end Go.FK
end

/- === FKab === -/
section
/- FKab: what the writing methods of strings.Builder do to memory: the pieces of their walks. My own text. -/
namespace Go.FK
open Go Go.RowKit
section
variable {T E B b : Nat} {l m : List UInt8} {w w1 w2 w3 : World} {p v v2 : Value}
theorem byteCells_len (l : List UInt8) : (Lib.byteCells l).length = l.length := by simp [Lib.byteCells]
end
section ops
variable {r : Option Nat} {P : Program} {n : Nat} {Q : Post} {s : Fm} {w : World} {ops : Array Oper} {rest : List Oper}
variable {d : Option Tmp} {ty : TypeId} {pos : String} {af : Array Edge} {T U E B : Nat} {l : List UInt8} {v : Value}
theorem info_u8 (hi : (P.info? E).map (fun i => (i.zero, i.size, i.bytes)) = some (some (.int .u8 0), 1, 1)) : ∃ i, P.info? E = some i ∧ i.zero = some (.int .u8 0) ∧ i.size = 1 ∧ i.bytes = 1 := by
 cases hq : P.info? E with
 | none => rw [hq] at hi; cases hi
 | some i =>
  rw [hq] at hi
  simp only [Option.map_some, Option.some.injEq, Prod.mk.injEq] at hi
  exact ⟨i, rfl, hi.1, hi.2.1, hi.2.2⟩
theorem L_toUns {src dst t : TypeId} {X : Operand} {k : Nat} {e : TypeId} {cs : List Value} (b : Nat) (hs : P.underlying src = some (.pointer t)) (hd : P.underlying dst = some .unsafePointer) (hi : (P.info? t).map (·.size) = some k) (hk : Nat.beq k 0 = false)
  (ho : w.heap[b]? = some (.cells cs.toArray e (0, 0))) (hc : Nat.blt 0 cs.length = true) (hX : s.ev n X = .pointer (some ⟨b, 0, none⟩)) (h : L r P n ops Q rest (s.put d (.pointer (some ⟨b, 0, none⟩))) w) :
  L r P n ops Q (⟨d, .convert src dst X, ty, pos, af, none⟩ :: rest) s w := by
 obtain ⟨j, hj, hjs⟩ := Option.map_eq_some_iff.1 hi
 have hsh : w.shape? b = some (e, cs.length) := by simp [World.shape?, ho]
 refine wC _ w (by simp) ?_ h
 simp only [execOp, hX, Sem.run_bind, Lib.run_to_unsafe (P := P) (w := w) ⟨b, 0, none⟩ hs hd hj (by rw [hjs]; intro e; subst e; simp at hk) hsh (by simpa using hc), Result.andThen_ok, Sem.run_pure]
theorem L_fromUns {src dst t : TypeId} {X : Operand} {k : Nat} {e : TypeId} {cs : List Value} (b : Nat) (hs : P.underlying src = some .unsafePointer) (hd : P.underlying dst = some (.pointer t)) (hi : (P.info? t).map (·.size) = some k)
  (ho : w.heap[b]? = some (.cells cs.toArray e (0, 0))) (hl : liesAt P P.depth e (cs.length / P.cellsOf e) 0 t 1 = true) (hX : s.ev n X = .pointer (some ⟨b, 0, none⟩)) (h : L r P n ops Q rest (s.put d (.pointer (some ⟨b, 0, none⟩))) w) :
  L r P n ops Q (⟨d, .convert src dst X, ty, pos, af, none⟩ :: rest) s w := by
 obtain ⟨j, hj, hjs⟩ := Option.map_eq_some_iff.1 hi
 have hsh : w.shape? b = some (e, cs.length) := by simp [World.shape?, ho]
 refine wC _ w (by simp) ?_ h
 simp only [execOp, hX, Sem.run_bind, Lib.run_from_unsafe (P := P) (w := w) ⟨b, 0, none⟩ hs hd hj hsh hl, Result.andThen_ok, Sem.run_pure]
theorem L_pneF {tp te yt : TypeId} {X Y : Operand} {k : Nat} (b : Nat) (hp : P.underlying tp = some (.pointer te)) (hi : (P.info? te).map (·.size) = some k) (hX : s.ev n X = .pointer (some ⟨b, 0, none⟩)) (hY : s.ev n Y = .pointer (some ⟨b, 0, none⟩))
  (hg : (eqGuard .neq tp X Y (.pointer (some ⟨b, 0, none⟩)) (.pointer (some ⟨b, 0, none⟩))).run P w = .ok () w) (h : L r P n ops Q rest (s.put d (.bool false)) w) : L r P n ops Q (⟨d, .binOp .neq tp X Y yt, ty, pos, af, none⟩ :: rest) s w := by
 obtain ⟨j, hj, _⟩ := Option.map_eq_some_iff.1 hi
 exact L_bin _ _ (.bool false) hX hY hg (Lib.run_neq_ptr_same w ⟨b, 0, none⟩ hp hj) h
theorem flat_take {α : Type} (enc : α → List Value) (k : Nat) (hk : ∀ x, (enc x).length = k) (xs : List α) (i : Nat) (hi : i ≤ xs.length) : (xs.flatMap enc).take (i * k) = (xs.take i).flatMap enc ∧ (xs.flatMap enc).drop (i * k) = (xs.drop i).flatMap enc := by
 have b : xs.flatMap enc = (xs.take i).flatMap enc ++ (xs.drop i).flatMap enc := by rw [← List.flatMap_append, List.take_append_drop]
 have a : ((xs.take i).flatMap enc).length = i * k := by rw [flat_len enc k hk, List.length_take, Nat.min_eq_left hi]
 rw [b]
 exact ⟨List.take_left' a, List.drop_left' a⟩
theorem flat_setA {α : Type} (enc : α → List Value) (k : Nat) (hk : ∀ x, (enc x).length = k) (xs : List α) (i : Nat) (x' : α) (hi : i < xs.length) : (xs.set i x').flatMap enc = (xs.flatMap enc).take (i * k) ++ enc x' ++ (xs.flatMap enc).drop (i * k + k) := by
 rw [(flat_take enc k hk xs i (by omega)).1, show i * k + k = (i + 1) * k by rw [Nat.succ_mul], (flat_take enc k hk xs (i + 1) (by omega)).2, List.set_eq_take_append_cons_drop, if_pos hi, List.flatMap_append, List.flatMap_cons, List.append_assoc]
theorem qP {α : Type} {t : TypeId} {X Y : Operand} {enc : α → List Value} {E k : Nat} {xs : List α} (i g off : Nat) (x' : α) (us : List Value) (hrow : Row w B E k enc v xs) (hk : ∀ x, (enc x).length = k) (hi : i < xs.length) (hl : Lies v g off xs.length)
  (hx : s.ev n X = .pointer (some ⟨g, off + i * k, none⟩)) (hy : s.ev n Y = .agg us.toArray) (h1 : us.all (·.oneCell') = true) (hz : (sizeOf t).run P w = .ok us.length w) (hen : enc x' = us)
  (h : ∀ w', Row w' B E k enc v (xs.set i x') → w.grownBy w' v.ownBlock → L r P n ops Q rest (s.put d undef) w') : L r P n ops Q (⟨d, .store t X Y, ty, pos, af, none⟩ :: rest) s w := by
 obtain ⟨hlen, hr⟩ := hrow
 rcases hr with ⟨l, j⟩ | ⟨g', cap, cur, rfl, hg, hh, hnc, hcm, hcs, htake⟩
 ·omega
 ·obtain ⟨c, hc⟩ := hl
  injection hc with hc1 hc2 hc3
  injection hc1 with hc1
  injection hc1 with hc1 hc4
  subst hc1; subst hc4
  rw [Nat.zero_add] at hx
  have hul : us.length = k := by rw [← hen, hk]
  have hb : i * k + k ≤ xs.length * k := by rw [← Nat.succ_mul]; exact Nat.mul_le_mul_right _ hi
  have f : xs.length * k ≤ cur.size := by rw [hcs]; exact Nat.mul_le_mul_right _ hnc
  have hble : Nat.ble (i * k + us.length) cur.toList.length = true := by
   have a : cur.toList.length = cur.size := Array.length_toList
   rw [Nat.ble_eq, a, hul]
   omega
  refine qS g' (i * k) us cur.toList (cur.toList.take (i * k) ++ us ++ cur.toList.drop (i * k + us.length)) E hx hy h1 hz (by simpa using hh) hble rfl ?_
  intro w' hW
  have hf := flat_setA enc k hk xs i x' hi
  have hrow' : Row w' B E k enc (.slice (some ⟨g', 0, none⟩) xs.length cap) (xs.set i x') := by
   refine ⟨?_, .inr ⟨g', cap, _, ?_, hg, hW.here, ?_, hcm, ?_, ?_⟩⟩
   ·rw [flat_len enc k hk]
   ·rw [List.length_set]
   ·rw [List.length_set]; exact hnc
   ·rw [hul]
    simp only [List.size_toArray, List.length_append, List.length_take, List.length_drop, Array.length_toList, hul]
    rw [← hcs]; omega
   ·rw [List.length_set, hf, hen, hul, ← htake]
    have a : cur.toList.length = cur.size := Array.length_toList
    have e : (cur.toList.take (i * k)).length = i * k := by rw [List.length_take, a]; omega
    rw [List.take_take, Nat.min_eq_left (by omega), List.drop_take]
    have b : (cur.toList.take (i * k) ++ us).length = i * k + k := by rw [List.length_append, e, hul]
    rw [show (cur.toList.take (i * k) ++ us ++ cur.toList.drop (i * k + k)).toArray.toList = cur.toList.take (i * k) ++ us ++ cur.toList.drop (i * k + k) from rfl, List.take_append, b, List.take_of_length_le (by rw [b]; omega)]
  exact h w' hrow' (grown_of_wrote hW rfl)
end ops
end Go.FK
end

/- === FKad === -/
section
/- FKad: the cells of a row's block as they lie: slices of the block, copies into it. My own text. -/
namespace Go.FK
open Go Go.RowKit
def AtE {α : Type} (enc : α → List Value) (k : Nat) (cur : List Value) (a : Nat) (ys : List α) : Prop := (cur.drop (a * k)).take (ys.length * k) = ys.flatMap enc
def putAt (k : Nat) (cur : List Value) (a : Nat) (cs : List Value) : List Value := cur.take (a * k) ++ cs ++ cur.drop (a * k + cs.length)
structure Raw (w : World) (B E k g cap : Nat) (cur : List Value) : Prop where
  base : B ≤ g
  here : w.heap[g]? = some (.cells cur.toArray E (0, 0))
  capm : cap ≤ maxLen
  size : cur.length = cap * k
theorem putAt_len {k a : Nat} {cur cs : List Value} (h : a * k + cs.length ≤ cur.length) : (putAt k cur a cs).length = cur.length := by
 unfold putAt; rw [List.length_append, List.length_append, List.length_take, List.length_drop]; omega
section
variable {α : Type} {enc : α → List Value} {k : Nat} {cur cs : List Value}
end
theorem Row.mono0 {α : Type} {w : World} {B E k : Nat} {enc : α → List Value} {v : Value} {xs : List α} (h : Row w B E k enc v xs) : Row w 0 E k enc v xs := by
 refine ⟨h.1, ?_⟩
 rcases h.2 with a | ⟨g, cap, cur, hv, hg, r⟩
 ·exact .inl a
 ·exact .inr ⟨g, cap, cur, hv, Nat.zero_le _, r⟩
theorem Raw.frozen {w : World} {B E k g cap : Nat} {cur : List Value} (h : Raw w B E k g cap cur) (j : Nat) : w.frozen? ⟨g, j, none⟩ = false := by unfold World.frozen?; rw [h.here]; simp
section ops
variable {r : Option Nat} {P : Program} {n : Nat} {Q : Post} {s : Fm} {w : World} {ops : Array Oper} {rest : List Oper}
variable {d : Option Tmp} {ty : TypeId} {pos : String} {af : Array Edge}
theorem Raw.put {B E k g cap a : Nat} {cur cs : List Value} (h : Raw w B E k g cap cur) (hf : a * k + cs.length ≤ cur.length) : Raw (w.setRow g (putAt k cur a cs).toArray) B E k g cap (putAt k cur a cs) :=
 ⟨h.base, setRow_heap w g _ _ E (0, 0) h.here, h.capm, by rw [putAt_len hf]; exact h.size⟩
theorem vD {K : Fm → Prop} {t yt : TypeId} {X Y : Operand} (xs ys : List Value) (b : Bool) (hx : s.ev n X = .agg xs.toArray) (hy : s.ev n Y = .agg ys.toArray) (hm : P.eqGuardType P.depth t = false)
  (hq : ∀ w, (Op.equalIn 10000 t (.agg xs.toArray) (.agg ys.toArray)).run P w = .ok b w)
  (ht : b = false → Lq P n ops w K rest (s.put d (.bool true))) (hf : b = true → Lq P n ops w K rest (s.put d (.bool false))) : Lq P n ops w K (⟨d, .binOp .neq t X Y yt, ty, pos, af, none⟩ :: rest) s := by
 have hg : ∀ w, (eqGuard .neq t X Y (.agg xs.toArray) (.agg ys.toArray)).run P w = .ok () w := fun w => run_eqGuard_agg (P := P) w .neq t X Y xs.toArray ys.toArray hm
 have hb : ∀ w, (binOp .neq t (.agg xs.toArray) (.agg ys.toArray)).run P w = .ok (.bool (!b)) w := fun w => by
  have hb := run_neq_struct (P := P) w t xs.toArray ys.toArray
  rw [hq, Result.andThen_ok] at hb
  exact hb
 refine Lq_bin _ _ _ hx hy hg hb ?_
 cases b with
 | true => exact hf rfl
 | false => exact ht rfl
end ops
end Go.FK
end

/- === FKae === -/
section
/- FKae: a region that draws its order, of which the first operations only read and must all come before one that changes memory: they may be walked in the order of the text. My own text. -/
namespace Go.FK
open Go Go.RowKit
def onB (o : Oper) (i : Nat) : Bool := o.after.any fun e => Region.binds .any e && Nat.beq e.on i
def preOk (ops : Array Oper) (k : Nat) : Bool :=
  ((List.range k).all fun i => match ops[i]? with
    | some o => (o.after.all fun e => !Region.binds .any e || decide (e.on < i)) && (match o.guard with | none => true | some g => decide (g.1 < k))
    | none => false) &&
  ((List.range k).all fun i => (List.range (k + 1)).any fun j => decide (i < j) && (match ops[j]? with | some o => onB o i | none => false)) &&
  ((List.range ops.size).all fun j => decide (j ≤ k) || (match ops[j]? with | some o => o.after.any fun e => Region.binds .any e && decide (k ≤ e.on) | none => false))
def preL (k N : Nat) : Array Bool := ((List.range N).map fun j => decide (j < k)).toArray
section
variable {ops : Array Oper} {k : Nat} {L : Array Bool}
structure PreI (ops : Array Oper) (k : Nat) (L : Array Bool) : Prop where
  size : L.size = ops.size
  high : ∀ j, k ≤ j → j < ops.size → L.getD j true = false
  down : ∀ i o, i < k → ops[i]? = some o → L.getD i true = true → ∀ e ∈ o.after, Region.binds .any e = true → L.getD e.on false = true
theorem pre_back (h : preOk ops k = true) {i : Nat} (hi : i < k) : ∃ o, ops[i]? = some o ∧ (∀ e ∈ o.after, Region.binds .any e = true → e.on < i) ∧ (∀ g, o.guard = some g → g.1 < k) := by
 unfold preOk at h
 simp only [Bool.and_eq_true, List.all_eq_true, List.mem_range] at h
 have a := h.1.1 i hi
 cases ho : ops[i]? with
 | none => rw [ho] at a; cases a
 | some o =>
  rw [ho] at a
  simp only [Bool.and_eq_true] at a
  refine ⟨o, rfl, fun e he hb => ?_, fun g hg => ?_⟩
  ·have := Array.all_eq_true'.1 a.1 e he
   simpa [hb] using this
  ·have b := a.2; rw [hg] at b; simpa using b
theorem pre_used (h : preOk ops k = true) {i : Nat} (hi : i < k) : ∃ j o, i < j ∧ j ≤ k ∧ ops[j]? = some o ∧ ∃ e ∈ o.after, Region.binds .any e = true ∧ e.on = i := by
 unfold preOk at h
 simp only [Bool.and_eq_true, List.all_eq_true, List.mem_range, List.any_eq_true] at h
 obtain ⟨j, hj, b, a⟩ := h.1.2 i hi
 cases ho : ops[j]? with
 | none => rw [ho] at a; cases a
 | some o =>
  rw [ho] at a
  simp only [onB] at a
  obtain ⟨e, he, hb⟩ := Array.any_eq_true'.1 a
  simp only [Bool.and_eq_true] at hb
  exact ⟨j, o, by simpa using b, by omega, ho, e, he, hb.1, Nat.eq_of_beq_eq_true hb.2⟩
theorem pre_rest (h : preOk ops k = true) {j : Nat} (hj : k < j) {o : Oper} (ho : ops[j]? = some o) : ∃ e ∈ o.after, Region.binds .any e = true ∧ k ≤ e.on := by
 unfold preOk at h
 simp only [Bool.and_eq_true, List.all_eq_true, List.mem_range] at h
 have hlt : j < ops.size := (Array.getElem?_eq_some_iff.1 ho).1
 have a := h.2 j hlt
 rw [ho] at a
 simp only [Bool.or_eq_true] at a
 rcases a with a | a
 ·have := of_decide_eq_true a; omega
 ·obtain ⟨e, he, hb⟩ := Array.any_eq_true'.1 a
  simp only [Bool.and_eq_true] at hb
  exact ⟨e, he, hb.1, of_decide_eq_true hb.2⟩
theorem getD_tf {L : Array Bool} {i : Nat} (h : i < L.size) : L.getD i false = L.getD i true := by simp [h]
theorem pre_low (h : preOk ops k = true) (hI : PreI ops k L) (hk : k ≤ ops.size) {i : Nat} (hi : i < k) (hu : L.getD i true = false) {j : Nat} (hj : j ∈ Region.ready .any ops L) : j < k := by
 rcases Nat.lt_or_ge j k with hlt | hge
 ·exact hlt
 exfalso
 obtain ⟨c, o, ho, hall⟩ := mem_ready.1 hj
 rcases Nat.lt_or_ge k j with hlt | hle
 ·obtain ⟨e, he, hb, hke⟩ := pre_rest h hlt ho
  have a := hall e he hb
  rcases Nat.lt_or_ge e.on ops.size with hs | hs
  ·rw [getD_tf (by rw [hI.size]; exact hs), hI.high _ hke hs] at a; cases a
  ·rw [Array.getD_eq_getD_getElem?, Array.getElem?_eq_none (by rw [hI.size]; exact hs)] at a; cases a
 ·obtain rfl : j = k := by omega
  -- all of the k first are listed
  have key : ∀ m i, j - i ≤ m → i < j → L.getD i true = true := by
   intro m
   induction m with
   | zero => intro i a b; omega
   | succ m ih =>
    intro i a b
    obtain ⟨j', o', hij, hjk, ho', e, he, hb, heq⟩ := pre_used h b
    rw [← heq]
    rw [← getD_tf (by rw [hI.size]; omega)]
    rcases Nat.lt_or_ge j' j with hl | hg
    ·exact hI.down j' o' hl ho' (ih j' (by omega) hl) e he hb
    ·obtain rfl : j' = j := by omega
     rw [ho] at ho'; cases ho'
     exact hall e he hb
  have := key j i (by omega) hi
  rw [hu] at this; cases this
theorem pre_ready (h : preOk ops k = true) (hI : PreI ops k L) : ∀ i, i < k → L.getD i true = false → ∃ j, j < k ∧ j ∈ Region.ready .any ops L := by
 intro i
 induction i using Nat.strongRecOn with
 | ind i ih =>
  intro hi hu
  obtain ⟨o, ho, hb, _⟩ := pre_back h hi
  by_cases hx : ∃ m, m < i ∧ L.getD m true = false
  ·obtain ⟨m, hm, hmu⟩ := hx
   exact ih m hm (by omega) hmu
  ·refine ⟨i, hi, mem_ready.2 ⟨hu, o, ho, fun e he hbi => ?_⟩⟩
   have hlt := hb e he hbi
   have his : i < ops.size := (Array.getElem?_eq_some_iff.1 ho).1
   rw [getD_tf (by rw [hI.size]; omega)]
   cases hc : L.getD e.on true with
   | true => rfl
   | false => exact absurd ⟨_, hlt, hc⟩ hx
theorem PreI.set (hI : PreI ops k L) {i : Nat} (hi : i < k) (hr : i ∈ Region.ready .any ops L) : PreI ops k (L.setIfInBounds i true) := by
 obtain ⟨a, o, ho, hall⟩ := mem_ready.1 hr
 refine ⟨by rw [Array.size_setIfInBounds]; exact hI.size, fun j hj hs => by rw [getD_set_ne true (by omega)]; exact hI.high j hj hs, fun j o' hj ho' hl e he hb => ?_⟩
 by_cases hij : i = j
 ·subst hij
  rw [ho] at ho'; cases ho'
  exact getD_set_true (hall e he hb)
 ·rw [getD_set_ne true hij] at hl
  exact getD_set_true (hI.down j o' hj ho' hl e he hb)
def unl (L : Array Bool) : Nat → Nat
  | 0 => 0
  | k + 1 => (if L.getD k true = false then 1 else 0) + unl L k
theorem unl_far {i : Nat} : ∀ k, k ≤ i → unl (L.setIfInBounds i true) k = unl L k
 | 0, _ => rfl
 | k + 1, h => by unfold unl; rw [getD_set_ne true (by omega), unl_far k (by omega)]
theorem unl_set {i : Nat} (hs : i < L.size) (hu : L.getD i true = false) : ∀ k, i < k → unl (L.setIfInBounds i true) k + 1 = unl L k
 | 0, h => by omega
 | k + 1, h => by
  unfold unl
  by_cases hik : i = k
  ·subst hik
   rw [unl_far i (Nat.le_refl _), if_pos hu, if_neg (by simp [hs])]; omega
  ·rw [getD_set_ne true hik, ← unl_set hs hu k (by omega)]; omega
theorem unl_zero : ∀ k, unl L k = 0 → ∀ i, i < k → L.getD i true = true
 | 0, _, i, h => by omega
 | k + 1, h, i, hi => by
  unfold unl at h
  rcases Nat.lt_or_ge i k with hl | hg
  ·exact unl_zero k (by omega) i hl
  ·obtain rfl : i = k := by omega
   cases hc : L.getD i true with
   | true => rfl
   | false => rw [if_pos hc] at h; omega
theorem unl_some : ∀ k, unl L k ≠ 0 → ∃ i, i < k ∧ L.getD i true = false
 | 0, h => absurd rfl h
 | k + 1, h => by
  unfold unl at h
  by_cases hc : L.getD k true = false
  ·exact ⟨k, by omega, hc⟩
  ·rw [if_neg hc] at h
   obtain ⟨i, hi, hu⟩ := unl_some k (by omega)
   exact ⟨i, by omega, hu⟩
theorem unl_all {N : Nat} : ∀ k, k ≤ N → unl (Array.replicate N false) k = k
 | 0, _ => rfl
 | k + 1, h => by unfold unl; rw [if_pos (by simp [show k < N by omega]), unl_all k (by omega)]; omega
theorem preL_eq (hI : PreI ops k L) (hk : k ≤ ops.size) (h0 : unl L k = 0) : L = preL k ops.size := by
 refine Array.ext (by rw [hI.size]; simp [preL]) fun i h1 h2 => ?_
 have hs : i < ops.size := by rw [← hI.size]; exact h1
 have e : L.getD i true = L[i] := by simp [h1]
 rw [← e]
 have a : (preL k ops.size)[i] = decide (i < k) := by simp [preL]
 rw [a]
 rcases Nat.lt_or_ge i k with hl | hg
 ·rw [unl_zero k h0 i hl, decide_eq_true hl]
 ·rw [hI.high i hg hs, decide_eq_false (by omega)]
end
section
variable {P : Program} {n : Nat} {ops : Array Oper} {k fuel : Nat} {C : World → Prop} {K : Act → Prop} {Q' : Exit → Act → World → Prop}
end
theorem PreI.zero {ops : Array Oper} {k : Nat} : PreI ops k (Array.replicate ops.size false) := by
 refine ⟨by simp, fun j _ hs => by simp [hs], fun i o hi ho hl e he hb => ?_⟩
 have hs : i < ops.size := (Array.getElem?_eq_some_iff.1 ho).1
 simp [hs] at hl
section
variable {P : Program} {n : Nat} {Q : Post} {s : Fm} {w : World}
end
end Go.FK
end

/- === FKan === -/
section
/- FKan: a region that draws its order, of which the first a operations are taken already: those up to k only read and must all come before one that changes memory: they may be walked in the order of the text. As FKae, begun later. My own text. -/
namespace Go.FK
open Go Go.RowKit
def preOkE (ops : Array Oper) (a k : Nat) : Bool :=
  ((List.range k).all fun i => match ops[i]? with
    | some o => (o.after.all fun e => !Region.binds .any e || decide (e.on < i)) && (match o.guard with | none => true | some g => decide (g.1 < k))
    | none => false) &&
  ((List.range k).all fun i => decide (i < a) || (List.range (k + 1)).any fun j => decide (i < j) && (match ops[j]? with | some o => onB o i | none => false)) &&
  ((List.range ops.size).all fun j => decide (j ≤ k) || (match ops[j]? with | some o => o.after.any fun e => Region.binds .any e && decide (k ≤ e.on) | none => false))
section
variable {ops : Array Oper} {a k : Nat} {L : Array Bool}
end
section
variable {P : Program} {n : Nat} {ops : Array Oper} {a k fuel : Nat} {C : World → Prop} {K : Act → Prop} {Q' : Exit → Act → World → Prop}
theorem getD_preL {a N i : Nat} (hi : i < N) : (preL a N).getD i true = decide (i < a) := by simp [preL, hi]
end
section
variable {P : Program} {n : Nat} {Q : Post} {s : Fm} {w : World}
end
section
variable {r : Option Nat} {P : Program} {n : Nat} {ops : Array Oper} {Q : Post} {rest : List Oper} {s : Fm} {w : World} {d : Option Tmp} {ty : TypeId} {pos : String} {af : Array Edge}
end
end Go.FK
end

/- === FKao === -/
section
/- FKao: a region that draws its order, of which the first k operations leave old memory alone (they may call, and make memory) and must all come before one behind: what each hands out is known by a fact that stays; each operation is walked once. My own text. -/
namespace Go.FK
open Go Go.RowKit
def dOf (D : List Nat) (i : Nat) : Nat := D.getD i 0
def diffB (D : List Nat) : Bool := (List.range D.length).all fun i => (List.range D.length).all fun j => Nat.beq i j || !Nat.beq (dOf D i) (dOf D j)
theorem diff_of {D : List Nat} (h : diffB D = true) {i j : Nat} (hi : i < D.length) (hj : j < D.length) (e : i ≠ j) : dOf D i ≠ dOf D j := fun q => by
 unfold diffB at h
 have a := List.all_eq_true.1 (List.all_eq_true.1 h i (List.mem_range.2 hi)) j (List.mem_range.2 hj)
 rw [q] at a
 have : Nat.beq i j = false := by
  cases hb : Nat.beq i j with
  | false => rfl
  | true => exact absurd (Nat.eq_of_beq_eq_true hb) e
 rw [this] at a
 simp at a
def OneOk (P : Program) (n : Nat) (ops : Array Oper) (w0 : World) (s0 : Fm) (D : List Nat) (G : Nat → Value → World → Prop) (i : Nat) (o : Oper) : Prop :=
  ∀ s w, Below w0.heap.size w0 w → s.ds = s0.ds → (∀ t, D.contains t = false → s.f t = s0.f t) → (∀ j, onB o j = true → G j (s.f (dOf D j)) w) →
    ∀ Z : Fm → World → Prop, (∀ s' w', Below w.heap.size w w' → s'.ds = s.ds → (∀ t, t ≠ dOf D i → s'.f t = s.f t) → G i (s'.f (dOf D i)) w' → Z s' w') →
    L none P n ops (fun c s' w' => c = .normal ∧ Z s' w') [o] s w
def OpsOk (P : Program) (n : Nat) (ops : Array Oper) (w0 : World) (s0 : Fm) (D : List Nat) (G : Nat → Value → World → Prop) : Nat → List Oper → Prop
  | _, [] => True
  | i, o :: rest => OneOk P n ops w0 s0 D G i o ∧ OpsOk P n ops w0 s0 D G (i + 1) rest
section
variable {P : Program} {n : Nat} {ops : Array Oper} {w0 : World} {s0 : Fm} {D : List Nat} {G : Nat → Value → World → Prop}
theorem ops_at (l : List Oper) : ∀ (i j : Nat) (o : Oper), OpsOk P n ops w0 s0 D G i l → l[j]? = some o → OneOk P n ops w0 s0 D G (i + j) o := by
 induction l with
 | nil => intro i j o h e; simp at e
 | cons a l ih =>
  intro i j o h e
  have h' : OneOk P n ops w0 s0 D G i a ∧ OpsOk P n ops w0 s0 D G (i + 1) l := h
  cases j with
  | zero =>
   have e : a = o := by simpa using e
   rw [Nat.add_zero, ← e]; exact h'.1
  | succ j =>
   have := ih (i + 1) j o h'.2 (by simpa using e)
   rw [show i + (j + 1) = i + 1 + j by omega]; exact this
def InvL (w0 : World) (s0 : Fm) (D : List Nat) (G : Nat → Value → World → Prop) (k : Nat) (A : Array Bool) (s : Fm) (w : World) : Prop :=
  Below w0.heap.size w0 w ∧ s.ds = s0.ds ∧ (∀ t, D.contains t = false → s.f t = s0.f t) ∧ ∀ i, i < k → A.getD i false = true → G i (s.f (dOf D i)) w
theorem inv_any {Q : Post} {k fuel : Nat} (h : preOk ops k = true) (hk : k ≤ ops.size) (hD : diffB D = true) (hDl : D.length = k) (hng : ∀ i o, i < k → ops[i]? = some o → o.guard = none)
  (hG : ∀ i v A B, G i v A → Below A.heap.size A B → G i v B) (hop : ∀ i o, i < k → ops[i]? = some o → OneOk P n ops w0 s0 D G i o)
  (fin : ∀ s w, InvL w0 s0 D G k (preL k ops.size) s w → Li P n ops Q fuel (preL k ops.size) s w) :
  ∀ (m : Nat) (A : Array Bool) (s : Fm) (w : World), PreI ops k A → unl A k = m → InvL w0 s0 D G k A s w → Li P n ops Q (m + fuel) A s w
 | 0, A, s, w, hI, hu, hv => by
  rw [Nat.zero_add]
  have e := preL_eq hI hk hu
  subst e
  exact fin s w hv
 | m + 1, A, s, w, hI, hu, hv => by
  obtain ⟨f, c, a⟩ := unl_some k (by omega : unl A k ≠ 0)
  rw [show m + 1 + fuel = m + fuel + 1 by omega]
  unfold Li
  refine ⟨fun he => ?_, fun i hi => ?_⟩
  ·obtain ⟨j, _, hj⟩ := pre_ready h hI f c a
   rw [he] at hj; cases hj
  ·have hik := pre_low h hI hk c a hi
   obtain ⟨o, ho, hbk, _⟩ := pre_back h hik
   have hs : i < A.size := by rw [hI.size]; omega
   have hun := (mem_ready.1 hi).1
   have hset := unl_set hs hun k hik
   obtain ⟨_, r, b, hall⟩ := mem_ready.1 hi
   rw [ho] at b; cases b
   have l := hop i o hik ho s w hv.1 hv.2.1 hv.2.2.1 (fun j hj => by
    unfold onB at hj
    obtain ⟨e, he, hb⟩ := Array.any_eq_true'.1 hj
    simp only [Bool.and_eq_true] at hb
    have d := hall e he hb.1
    have q := hbk e he hb.1
    have g : e.on = j := Nat.eq_of_beq_eq_true hb.2
    rw [← g]
    exact hv.2.2.2 _ (by omega) d) (fun s' w' => Li P n ops Q (m + fuel) (A.setIfInBounds i true) s' w') (fun s' w' q2 q3 q4 q5 => by
    refine inv_any h hk hD hDl hng hG hop fin m _ s' w' (hI.set hik hi) (by omega) ⟨?_, q3.trans hv.2.1, fun t ht => ?_, fun j hj hl => ?_⟩
    ·exact hv.1.trans (q2.mono hv.1.size)
    ·rw [q4 t (fun e => by
      rw [e] at ht
      have : D.contains (dOf D i) = true := by
       rw [List.contains_iff_mem]
       unfold dOf
       rw [List.getD_eq_getElem?_getD, List.getElem?_eq_getElem (by omega)]
       exact List.getElem_mem _
      rw [this] at ht; cases ht)]
     exact hv.2.2.1 t ht
    ·by_cases hij : i = j
     ·subst hij; exact q5
     ·rw [q4 _ (diff_of hD (by omega) (by omega) (fun e => hij e.symm))]
      refine hG _ _ _ _ (hv.2.2.2 j hj ?_) q2
      have hjs : j < A.size := by rw [hI.size]; omega
      have p : (A.setIfInBounds i true).getD j false = A.getD j false := by
       rw [Array.getD_eq_getD_getElem?, Array.getD_eq_getD_getElem?, Array.getElem?_setIfInBounds, if_neg hij]
      rw [p] at hl; exact hl)
   have d := I_op (Q := Q) (fuel := m + fuel) (listed := A) i ho l (hng i o hik ho)
   unfold Iop at d
   exact d
end
section
variable {P : Program} {n : Nat} {Q : Post} {s : Fm} {w : World}
theorem W_inv {r : Option Nat} {id : Nat} {l : List Oper} (k N m : Nat) (D : List Nat) (G : Nat → Value → World → Prop) (hN : Nat.beq l.length N = true) (hm : P.follows .mixedOrders = true) (hd : noDefers l.toArray = true) (hp : preOk l.toArray k = true)
  (hng : ((l.take k).all fun o => o.guard.isNone) = true) (hD : diffB D = true) (hDl : Nat.beq D.length k = true) (hk : Nat.beq (k + m) N = true) (hG : ∀ i v A B, G i v A → Below A.heap.size A B → G i v B)
  (hop : ∀ w', Below w.heap.size w w' → OpsOk P n l.toArray w' s D G 0 (l.take k))
  (h : ∀ w' s1 w1, Below w.heap.size w w' → Below w'.heap.size w' w1 → s1.ds = s.ds → (∀ t, D.contains t = false → s1.f t = s.f t) → (∀ i, i < k → G i (s1.f (dOf D i)) w1) → Li P n l.toArray Q m (preL k N) s1 w1) : W r P n (.region id l.toArray true) Q s w := by
 refine W_draws N hN hm hd fun w' hw' => ?_
 obtain rfl := Nat.eq_of_beq_eq_true hN
 have hk := Nat.eq_of_beq_eq_true hk
 have hDl := Nat.eq_of_beq_eq_true hDl
 have ho := hop w' hw'
 have key := inv_any (P := P) (n := n) (ops := l.toArray) (w0 := w') (s0 := s) (D := D) (G := G) (Q := Q) (fuel := m) hp (by simp; omega) hD hDl (fun i o hi he => by
   have he : l[i]? = some o := by simpa using he
   have a : (l.take k)[i]? = some o := by rw [List.getElem?_take, if_pos hi]; exact he
   have := List.all_eq_true.1 hng o (List.mem_of_getElem? a)
   exact Option.isNone_iff_eq_none.1 this) hG (fun i o hi he => by
   have he : l[i]? = some o := by simpa using he
   have a : (l.take k)[i]? = some o := by rw [List.getElem?_take, if_pos hi]; exact he
   have := ops_at _ 0 i o ho a
   rw [Nat.zero_add] at this; exact this)
  (fun s1 w1 hv => by
   have e : l.toArray.size = l.length := by simp
   rw [e] at hv ⊢
   exact h w' s1 w1 hw' hv.1 hv.2.1 hv.2.2.1 (fun i hi => hv.2.2.2 i hi (by
    rw [getD_tf (by simp [preL]; omega), getD_preL (by omega)]; exact decide_eq_true hi)))
  k (Array.replicate l.length false) s w' (by have := PreI.zero (ops := l.toArray) (k := k); simpa using this) (unl_all k (by omega)) ⟨Below.refl _ _, rfl, fun t _ => rfl, fun i hi hl => by simp [show i < l.length by omega] at hl⟩
 rw [hk] at key
 exact key
end
theorem xK {s : Fm} {i : Nat} {v : Value} (h : s.f i = v) : s.put (some i) v = s := by
 cases s with
 | mk f ds =>
  simp only [Fm.put, Fm.mk.injEq, and_true]
  funext j
  cases hj : Nat.beq j i with
  | false => rfl
  | true => rw [Nat.eq_of_beq_eq_true hj]; exact h.symm
theorem xI {s : Fm} {d t : Nat} {v : Value} (h : t ≠ d) : (s.put (some d) v).f t = s.f t := by
 have : Nat.beq t d = false := by
  cases hb : Nat.beq t d with
  | false => rfl
  | true => exact absurd (Nat.eq_of_beq_eq_true hb) h
 simp only [Fm.put, this]; rfl
theorem xX {s : Fm} {d : Option Nat} {v : Value} : (s.put d v).ds = s.ds := by cases d <;> rfl
theorem put_here {s : Fm} {d : Nat} {v : Value} : (s.put (some d) v).f d = v := by
 have : Nat.beq d d = true := Nat.beq_refl d
 simp only [Fm.put, this]; rfl
def putL (s : Fm) : List Nat → List Value → Fm
  | d :: ds, v :: vs => putL (s.put (some d) v) ds vs
  | _, _ => s
def AllAt (s : Fm) : List Nat → List Value → Prop
  | d :: ds, v :: vs => s.f d = v ∧ AllAt s ds vs
  | _, _ => True
theorem putL_ds : ∀ (ds : List Nat) (vs : List Value) (s : Fm), (putL s ds vs).ds = s.ds
 | [], _, _ => rfl
 | _ :: _, [], _ => rfl
 | d :: ds, v :: vs, s => by rw [putL, putL_ds ds vs]; rfl
theorem putL_at {s3 : Fm} : ∀ (ds : List Nat) (vs : List Value) (s : Fm), ds.length = vs.length → AllAt s3 ds vs → ∀ t, (putL s ds vs).f t = s3.f t ∨ (ds.contains t = false ∧ (putL s ds vs).f t = s.f t)
 | [], [], s, _, _, t => .inr ⟨rfl, rfl⟩
 | d :: ds, v :: vs, s, hl, ha, t => by
  rcases putL_at ds vs (s.put (some d) v) (by simpa using hl) ha.2 t with h | ⟨b, a⟩
  ·exact .inl h
  ·by_cases e : t = d
   ·subst e
    left
    show (putL (s.put (some t) v) ds vs).f t = _
    rw [a, put_here]; exact ha.1.symm
   ·right
    refine ⟨?_, ?_⟩
    ·rw [List.contains_cons, b, Bool.or_false]; exact beq_false_of_ne e
    ·show (putL (s.put (some d) v) ds vs).f t = _
     rw [a, xI e]
theorem frm_eq {s s3 : Fm} (ds : List Nat) (vs : List Value) (hl : ds.length = vs.length) (hd : s3.ds = s.ds) (hf : ∀ t, ds.contains t = false → s3.f t = s.f t) (hv : AllAt s3 ds vs) : s3 = putL s ds vs := by
 have c := putL_at ds vs s hl hv
 have b := putL_ds ds vs s
 have a : s3.f = (putL s ds vs).f := funext fun t => by
  rcases c t with h | ⟨h, h'⟩
  ·exact h.symm
  ·rw [h', hf t h]
 cases s3 with
 | mk f3 d3 =>
  cases hp : putL s ds vs with
  | mk f4 d4 =>
   rw [hp] at b a
   simp only at b a hd
   rw [a, hd, b]
def gOf (Gs : List (Value → World → Prop)) (i : Nat) : Value → World → Prop := Gs.getD i (fun _ _ => True)
def AllSt : List (Value → World → Prop) → Prop
  | [] => True
  | p :: l => (∀ v A B, p v A → Below A.heap.size A B → p v B) ∧ AllSt l
theorem allSt_of : ∀ (Gs : List (Value → World → Prop)), AllSt Gs → ∀ i v A B, gOf Gs i v A → Below A.heap.size A B → gOf Gs i v B
 | [], _, i, v, A, B, _, _ => by simp [gOf]
 | p :: l, h, 0, v, A, B, hp, hb => h.1 v A B hp hb
 | p :: l, h, i + 1, v, A, B, hp, hb => allSt_of l h.2 i v A B hp hb
section
variable {P : Program} {n : Nat} {Q : Post} {s : Fm} {w : World}
theorem W_invL {r : Option Nat} {id : Nat} {l : List Oper} (k N m : Nat) (D : List Nat) (Gs : List (Value → World → Prop)) (hN : Nat.beq l.length N = true) (hm : P.follows .mixedOrders = true) (hd : noDefers l.toArray = true) (hp : preOk l.toArray k = true)
  (hng : ((l.take k).all fun o => o.guard.isNone) = true) (hD : diffB D = true) (hDl : Nat.beq D.length k = true) (hk : Nat.beq (k + m) N = true) (hG : AllSt Gs)
  (hop : ∀ w', Below w.heap.size w w' → OpsOk P n l.toArray w' s D (gOf Gs) 0 (l.take k))
  (h : ∀ w' s1 w1, Below w.heap.size w w' → Below w'.heap.size w' w1 → s1.ds = s.ds → (∀ t, D.contains t = false → s1.f t = s.f t) → (∀ i, i < k → gOf Gs i (s1.f (dOf D i)) w1) → Li P n l.toArray Q m (preL k N) s1 w1) : W r P n (.region id l.toArray true) Q s w :=
 W_inv k N m D (gOf Gs) hN hm hd hp hng hD hDl hk (allSt_of Gs hG) hop h
end
end Go.FK
end

/- === FKaf === -/
section
/- FKaf: the rest of a division of whole numbers, below zero too. My own text. -/
namespace Go.FK
open Go Go.RowKit
section
variable {r : Option Nat} {P : Program} {n : Nat} {Q : Post} {s : Fm} {w : World} {ops : Array Oper} {rest : List Oper}
variable {d : Option Tmp} {ty : TypeId} {pos : String} {af : Array Edge}
end
end Go.FK
end

/- === FKag === -/
section
/- FKag: a range over an iterator inside an iterator: the first round comes behind blocks of its own. My own text; W_rangeN is W_range (FKg) with one fact more handed on. -/
namespace Go.FK
open Go Go.RowKit
theorem Kp.trans {K0 K : Nat} {A B C : World} (h : Kp K0 K A B) (k : Kp K0 K B C) : Kp K0 K A C := ⟨Nat.le_trans h.size k.size, fun i hi => (k.same i hi).trans (h.same i hi)⟩
section
variable {P : Program} {n : Nat} {Q : Post} {s : Fm} {w : World}
end
end Go.FK
end

/- === FKah === -/
section
/- FKah: an iterator whose rounds may lay blocks of its own that outlast the caller's turn: the caller's round leaves alone what was laid since its last turn. My own text; W_range2 is W_range (FKg) with that promise. -/
namespace Go.FK
open Go Go.RowKit
section
variable {r : Option Nat} {P : Program} {n : Nat} {Q : Post} {s : Fm} {w : World} {ops : Array Oper} {rest : List Oper}
variable {d : Option Tmp} {ty : TypeId} {pos : String} {af : Array Edge}
theorem L_yieldR {op : Op} {R : Ending → World → Prop} (l : Nat) (args : List Value) (hrun : (execOp (s.ev n) ⟨d, op, ty, pos, af, none⟩).run P w = (Instr.yield l args.toArray).run P w) (hd : notDefer op = true)
  (hy : YieldAt (Fw none) 0 P l args.toArray w R) (hR : ∀ e w', R e w' → ∃ b, e = .returned (.bool b) ∧ L r P n ops Q rest (s.put d (.bool b)) w') : L r P n ops Q (⟨d, op, ty, pos, af, none⟩ :: rest) s w := by
 obtain ⟨fn, tmps, assign, body, hyr, hround⟩ := hy
 have c : (execOp (s.ev n) ⟨d, op, ty, pos, af, none⟩).run P w = .ok (.round l fn tmps assign body) w := hrun.trans hyr
 refine L_step rfl (qR hd) ?_
 rw [c]
 refine ⟨fun hx => by simp [Fw] at hx, ?_⟩
 have a : RoundIn (Fw r) 0 P l fn tmps assign body w R := hround
 refine (round_any rfl a).mono ?_
 intro e w' hr
 obtain ⟨b, rfl, hL⟩ := hR e w' hr
 show wpListIn (Fw r) 0 P ops (upQ n Q) rest ((s.act n).put d (.bool b)) w'
 rw [qH]; exact L_iff.1 hL
end
def Iter2 {α : Type} (P : Program) (g : FuncId) (lb : List Value) (encs : α → List Value) (els : List α) (N : World → Prop) : Prop :=
  ∀ (l : Nat) (J Jx : Nat → List α → World → Prop) (w : World), N w →
    (∀ A, Below w.heap.size w A → J A.heap.size [] A) →
    (∀ K pre A B, J K pre A → Ch (Iv w.heap.size K) A B → J K pre B) →
    (∀ K pre A B, Jx K pre A → Ch (Iv w.heap.size K) A B → Jx K pre B) →
    (∀ K pre x A0 A, J K pre A0 → Ch (Iv w.heap.size K) A0 A → N A → w.heap.size ≤ K → K ≤ A0.heap.size → pre ++ [x] <+: els → YieldAt (Fw none) 0 P l (encs x).toArray A fun e A' =>
      (e = .returned (.bool true) ∧ J K (pre ++ [x]) A' ∧ Kp w.heap.size K A A' ∧ Kp A0.heap.size A.heap.size A A' ∧ N A') ∨ (e = .returned (.bool false) ∧ Jx K (pre ++ [x]) A' ∧ Kp w.heap.size K A A')) →
    Calls P g (.func (.yield l) #[] #[] :: lb).toArray w (Ret fun _ w' => w.heap.size ≤ w'.heap.size ∧ ((∃ K, J K els w') ∨ (∃ K pre x, pre ++ [x] <+: els ∧ Jx K (pre ++ [x]) w')))
def roundQ2 {α : Type} (K0 K K1 K2 : Nat) (I : Nat → List α → World → Prop) (Ix : Nat → Code → List α → World → Prop) (N : World → Prop) (xs : List α) (w2 : World) : Post
  | .normal, _, w3 => Kp K0 K w2 w3 ∧ Kp K1 K2 w2 w3 ∧ I K xs w3 ∧ N w3
  | .ret, _, w3 => Kp K0 K w2 w3 ∧ Ix K .ret xs w3
  | .exit id, _, w3 => Kp K0 K w2 w3 ∧ Ix K (.exit id) xs w3
  | .goto t, _, w3 => Kp K0 K w2 w3 ∧ Ix K (.goto t) xs w3
  | _, _, _ => False
section
variable {α : Type} {K0 K K1 K2 : Nat} {I : Nat → List α → World → Prop} {Ix : Nat → Code → List α → World → Prop} {N : World → Prop} {xs : List α} {w2 w3 : World} {s : Fm}
end
section
variable {P : Program} {n : Nat} {Q : Post} {s : Fm} {w : World}
end
end Go.FK
end
