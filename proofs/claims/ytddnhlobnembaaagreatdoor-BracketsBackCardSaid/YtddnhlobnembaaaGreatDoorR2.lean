/- Joined by my program pack2.py out of my own texts: PLplc PLeach PLrds FKq PHexM PWordM PBr3 PScn PBr4 PBr5 PBr6 PLapart PBr7 FKaq FKar Wllines Wlscan Wlread Wccor FKl FKi FKab FKad FKae FKan FKao FKaf FKag FKah FKap FKbc. -/
import Derived.Lib.Join
import Derived.Lib.ItoaNum
import Derived.Test.YtddnhlobnembaaaGreatDoorProg
import Derived.Tactics2
import Derived.Shelf.Strings.BuilderK
import Derived.Lib.OthersKept
import Derived.Lib.FrozenHead2
import Derived.Lib.Builder
import Derived.Laws.CopyRow
import Derived.Lib.Overlaps
import Derived.Lib.AppendZerosOnto
import Derived.OrdersHeld
import Derived.OrdersIn
import Derived.Test.YtddnhlobnembaaaGreatDoorR1
set_option linter.unusedVariables false
set_option linter.unusedSimpArgs false
/- === PLplc === -/
section
/- Plain laws of chapter 3: places, lines and columns. -/
namespace Go.FK
open Go Go.RowKit
section ops
variable {r : Option Nat} {P : Program} {n : Nat} {Q : Post} {s : Fm} {w : World} {ops : Array Oper} {rest : List Oper}
variable {d : Option Tmp} {ty : TypeId} {pos : String} {af : Array Edge}
end ops
def endsF (s : List UInt8) : List (Nat × Nat × Nat) := pcsFrom s (markN s) (markN s)
theorem pcsI_ends (s : List UInt8) : pcsI s = (endsF s).map toI := rfl
theorem pcsR_ends (s : List UInt8) : pcsR s = (endsF s).filter keepP := rfl
theorem pcsN_shape (s : List UInt8) : ∀ (n a i : Nat), s.length - i = n → a ≤ i → i ≤ s.length → ∃ init b, pcsN s n a i = init ++ [(b, s.length, s.length)] ∧ (∀ p ∈ init, keepP p = true ∧ p.2.1 < p.2.2) ∧ (init = [] → b = a) ∧ (∀ p, init.getLast? = some p → p.2.2 = b) ∧ b ≤ s.length
 | 0, a, i, h, h1, h2 => ⟨[], a, rfl, by simp, fun _ => rfl, by simp, by omega⟩
 | n + 1, a, i, h, h1, h2 => by
  rw [pcsN]
  split
  ·obtain ⟨init, b, e, g, c, f, d⟩ := pcsN_shape s n (i + 1) (i + 1) (by omega) (Nat.le_refl _) (by omega)
   have hc := crN_le s a i
   refine ⟨(a, crN s a i, i + 1) :: init, b, by rw [e]; rfl, ?_, by simp, ?_, d⟩
   ·intro p hp
    rcases List.mem_cons.1 hp with rfl | hp
    ·exact ⟨by simp [keepP]; omega, by simp only; omega⟩
    ·exact g p hp
   ·intro p hp
    cases init with
    | nil => simp at hp; subst hp; exact (c rfl).symm
    | cons q l => rw [List.getLast?_cons_cons] at hp; exact f p hp
  ·exact pcsN_shape s n a (i + 1) (by omega) (by omega) (by omega)
theorem ends_shape (s : List UInt8) : ∃ init b, endsF s = init ++ [(b, s.length, s.length)] ∧ (∀ p ∈ init, keepP p = true ∧ p.2.1 < p.2.2) ∧ (init = [] → b = markN s) ∧ (∀ p, init.getLast? = some p → p.2.2 = b) ∧ b ≤ s.length :=
 pcsN_shape s _ _ _ rfl (Nat.le_refl _) (mark_len s)
theorem filter_all {α : Type} {p : α → Bool} {l : List α} (h : ∀ x ∈ l, p x = true) : l.filter p = l := List.filter_eq_self.2 h
theorem ends_ok {s : List UInt8} {i : Nat} {p : Nat × Nat × Nat} (h : (endsF s)[i]? = some p) : p.1 ≤ p.2.1 ∧ p.2.1 ≤ p.2.2 ∧ p.2.2 ≤ s.length :=
 pcs_okN s _ _ _ rfl (Nat.le_refl _) (mark_len s) p (List.mem_of_getElem? h)
theorem pcsR_ok {s : List UInt8} {i : Nat} {p : Nat × Nat × Nat} (h : (pcsR s)[i]? = some p) : p.1 ≤ p.2.1 ∧ p.2.1 ≤ p.2.2 ∧ p.2.2 ≤ s.length := by
 have hm := List.mem_of_getElem? h
 rw [pcsR_ends] at hm
 obtain ⟨i, hi⟩ := List.mem_iff_getElem?.1 (List.mem_filter.1 hm).1
 exact ends_ok hi
def textOf (s : List UInt8) (p : Nat × Nat × Nat) : List UInt8 := (s.take p.2.1).drop p.1
def placeF (s : List UInt8) (line col : Int) : Int × Int :=
  if line < 1 ∨ ((endsF s).length : Int) < line ∨ col < 1 then (0, 2) else
  match (endsF s)[(line - 1).toNat]? with
  | none => (0, 2)
  | some p => match (charsFrom (textOf s p) 0)[(col - 1).toNat]? with
    | some c => (((p.1 + c.1 : Nat) : Int), 0)
    | none => if col = ((charsFrom (textOf s p) 0).length : Int) + 1 then ((p.2.1 : Int), 0) else (0, 2)
def fromAt (s : List UInt8) (i : Nat) : Nat := ((endsF s).getD i (0, 0, 0)).1
def lixF (s : List UInt8) (b : Int) : Nat → Nat
  | 0 => 0
  | i + 1 => if i = 0 ∨ (fromAt s i : Int) ≤ b then i else lixF s b i
def cntE (x : Int) (l : List (Nat × Nat × Nat)) : Nat := (l.filter fun c => decide (((c.1 + c.2.1 : Nat) : Int) ≤ x)).length
def cntA (x : Int) (l : List (Nat × Nat × Nat)) : Nat := (l.filter fun c => decide (0 < c.1 ∧ (c.1 : Int) ≤ x)).length
def whereF (s : List UInt8) (b : Int) : Int × Int :=
  if b < 0 ∨ (s.length : Int) < b then (0, 0) else
  (((lixF s b (endsF s).length + 1 : Nat) : Int), ((1 + cntE (b - fromAt s (lixF s b (endsF s).length)) (charsFrom (textOf s ((endsF s).getD (lixF s b (endsF s).length) (0, 0, 0))) 0) : Nat) : Int))
end Go.FK
end

/- === PLeach === -/
section
/- Plain laws of chapter 3: what is told of a text, by the pieces of the reference. -/
namespace Go.FK
open Go Go.RowKit
def encTold (x : Int × List UInt8) : List Value := [.int .i64 x.1, S x.2]
def allF (s : List UInt8) (few : Int) : List (Int × List UInt8) := if 1 ≤ few ∧ few < ((toldF s).length : Int) then (toldF s).take few.toNat else toldF s
def toldR (s : List UInt8) : Nat → List (Nat × Nat × Nat) → List (Int × List UInt8)
  | _, [] => []
  | k, p :: l => (((k + 1 : Nat) : Int), (s.take p.2.1).drop p.1) :: toldR s (k + 1) l
theorem toldL_app (s : List UInt8) : ∀ (l m : List (Nat × Nat × Nat)) (k : Nat), (∀ p ∈ l, keepP p = true) → toldL s k ((l ++ m).map toI) = toldR s k l ++ toldL s (k + l.length) (m.map toI)
 | [], m, k, _ => by simp [toldR]
 | p :: l, m, k, h => by
  have hp := h p List.mem_cons_self
  simp only [keepP, decide_eq_true_eq] at hp
  rw [List.cons_append, List.map_cons, toldL, if_neg (by simp only [toI]; omega), toldL_app s l m (k + 1) (fun q hq => h q (List.mem_cons_of_mem _ hq)), toldR]
  have e : k + 1 + l.length = k + (p :: l).length := by rw [List.length_cons]; omega
  rw [e]
  simp [toI]
theorem told_ref (s : List UInt8) : toldF s = toldR s 0 (pcsR s) := by
 obtain ⟨init, b, e, a, f, g, h⟩ := ends_shape s
 have hf : init.filter keepP = init := filter_all fun x hx => (a x hx).1
 have key : pcsR s = init ++ if keepP (b, s.length, s.length) = true then [(b, s.length, s.length)] else [] := by rw [pcsR_ends, e, List.filter_append, hf, List.filter_cons, List.filter_nil]
 unfold toldF
 rw [pcsI_ends, e, toldL_app s init _ 0 (fun p hp => (a p hp).1), key]
 by_cases hk : keepP (b, s.length, s.length) = true
 ·rw [if_pos hk]
  have i := toldL_app s [(b, s.length, s.length)] [] (0 + init.length) (fun p hp => by obtain rfl := List.mem_singleton.1 hp; exact hk)
  have c := toldL_app s (init ++ [(b, s.length, s.length)]) [] 0 (fun p hp => by
   rcases List.mem_append.1 hp with hp | hp
   ·exact (a p hp).1
   ·obtain rfl := List.mem_singleton.1 hp; exact hk)
  have d := toldL_app s init [(b, s.length, s.length)] 0 (fun p hp => (a p hp).1)
  rw [List.append_nil] at c
  rw [← d, c]; simp [toldL]
 ·rw [if_neg hk, List.append_nil]
  simp only [keepP, decide_eq_true_eq] at hk
  have : b = s.length := by omega
  subst this
  simp [toI, toldL]
theorem toldR_len (s : List UInt8) : ∀ (l : List (Nat × Nat × Nat)) (k : Nat), (toldR s k l).length = l.length
 | [], k => rfl
 | p :: l, k => by rw [toldR, List.length_cons, toldR_len s l (k + 1), List.length_cons]
def okPc (s : List UInt8) (p : List (Nat × Nat × Nat)) : Prop := ∀ x ∈ p, x.1 ≤ x.2.1 ∧ x.2.1 ≤ s.length
end Go.FK
end

/- === PLrds === -/
section
/- Plain laws of chapter 3: the reference's lines, one by one; lists of lines held against each other. -/
namespace Go.FK
open Go Go.RowKit
open Classical in
noncomputable def eqLs (a b : List LineV) : Bool := decide (a.map stripL = b.map stripL)
def NRd (w : World) (v : Value) (xs : List LineV) : Prop := Rd w encLine v xs ∧ ∀ x ∈ xs, Rd w encStr x.v x.fs
section
variable {F : Nat} {w w' : World} {B E k i : Nat} {enc : LineV → List Value} {v v' q : Value} {xs ys : List LineV}
theorem NRd.nil (w : World) : NRd w (.slice none 0 0) [] := ⟨Rd.nil _ _, fun _ h => by cases h⟩
def ND (xs : List LineV) : Prop := ∀ (i j : Nat) (x y : LineV) (g : Nat), xs[i]? = some x → xs[j]? = some y → i ≠ j → x.v.ownBlock = some g → y.v.ownBlock ≠ some g
def SRow (F i : Nat) (w : World) (B E k : Nat) (enc : LineV → List Value) (v : Value) (xs : List LineV) : Prop := Row w B E k enc v xs ∧ (∀ (j : Nat) (x : LineV), i ≤ j → xs[j]? = some x → Row w B F 1 encStr x.v x.fs) ∧ ND xs
end
end Go.FK
end

/- === FKq === -/
section
/- FKq: arguments of plain data, opened: structs, slices of plain elements, lines. My own text. -/
namespace Go.FK
open Go Go.RowKit Go.ChangeShapes Go.WideShapes
def CapOk (v : Value) : Prop := ∀ a n c, v = .slice a n c → n ≤ c
theorem all_choose {α : Type} {n : Nat} {p : Nat → α → Prop} (h : ∀ i, i < n → ∃ a, p i a) : ∃ xs : List α, xs.length = n ∧ ∀ i a, xs[i]? = some a → p i a := by
 refine ⟨List.ofFn (fun i : Fin n => Classical.choose (h i.1 i.2)), by simp, fun i a hi => ?_⟩
 rw [List.getElem?_ofFn] at hi
 split at hi
 ·rename_i hn
  cases hi
  exact Classical.choose_spec (h i hn)
 ·cases hi
structure Flat (P : Program) (t : TypeId) (k : Nat) {α : Type} (enc : α → List Value) (dat : (H : Type) → α → DataW H) (good : α → Prop) : Prop where
  len : ∀ a, (enc a).length = k
  size : P.cellsOf t = k
  dec : ∀ {H : Type} {en : TypeId × Value → H} {w : World} {base : Nat} {spare : Nat → Bool} {held : Bool} {n : Nat} {cs : List Value} {x : DataW H × List MemPlace}, DataW.trod en P w base spare held n t cs = some x → ∃ a, cs = enc a ∧ x = (dat H a, []) ∧ good a
section
variable {P : Program} {t : TypeId}
theorem flat_int {k : IntKind} (ht : P.underlying t = some (.int k)) (hc : P.cellsOf t = 1) : Flat P t 1 (fun x : Int => [.int k x]) (fun H x => .lit (.int k x)) (fun x => (Lit.int k x).wf = true) := ⟨fun _ => rfl, hc, fun h => by
 obtain ⟨n, a, c, b⟩ := DataW.trod_int ht h
 exact ⟨n, a, c, b⟩⟩
theorem trod_cells3 {H : Type} {en : TypeId × Value → H} {w : World} {base : Nat} {spare : Nat → Bool} {held : Bool} {n : Nat} {cs : List Value} {x : DataW H × List MemPlace} {f0 f1 f2 : Field} (hs : P.underlying t = some (.struct #[f0, f1, f2])) (hone : Go.Deep.oneCellFields P #[f0, f1, f2] = true) (hC : P.cellsOf t = 3)
  (h : DataW.trod en P w base spare held n t cs = some x) : ∃ c0 c1 c2, ∃ (y0 y1 y2 : DataW H × List MemPlace), ∃ m, cs = [c0, c1, c2] ∧ x = (.agg [y0.1, y1.1, y2.1], y0.2 ++ (y1.2 ++ (y2.2))) ∧ DataW.trod en P w base spare held m f0.type [c0] = some y0 ∧ DataW.trod en P w base spare held m f1.type [c1] = some y1 ∧ DataW.trod en P w base spare held m f2.type [c2] = some y2 := by
 obtain ⟨xs, m, _, rfl, hl, hlen, hf⟩ := DataW.trod_struct hs h
 rw [hC] at hl
 match xs, hlen, cs, hl with
 | [y0, y1, y2], _, [c0, c1, c2], _ =>
  refine ⟨c0, c1, c2, y0, y1, y2, m, rfl, by simp, ?_, ?_, ?_⟩
  ·have q := Go.Deep.hone_of hone 0 f0 rfl
   have z := hf 0 f0 rfl
   rw [q.1, q.2] at z
   exact z
  ·have q := Go.Deep.hone_of hone 1 f1 rfl
   have z := hf 1 f1 rfl
   rw [q.1, q.2] at z
   exact z
  ·have q := Go.Deep.hone_of hone 2 f2 rfl
   have z := hf 2 f2 rfl
   rw [q.1, q.2] at z
   exact z
theorem flat_struct3 {α0 α1 α2 : Type} {e0 : α0 → List Value} {d0 : (H : Type) → α0 → DataW H} {g0 : α0 → Prop} {e1 : α1 → List Value} {d1 : (H : Type) → α1 → DataW H} {g1 : α1 → Prop} {e2 : α2 → List Value} {d2 : (H : Type) → α2 → DataW H} {g2 : α2 → Prop} {f0 f1 f2 : Field} (hs : P.underlying t = some (.struct #[f0, f1, f2])) (hone : Go.Deep.oneCellFields P #[f0, f1, f2] = true) (hC : P.cellsOf t = 3) (F0 : Flat P f0.type 1 e0 d0 g0) (F1 : Flat P f1.type 1 e1 d1 g1) (F2 : Flat P f2.type 1 e2 d2 g2) :
  Flat P t 3 (fun a : α0 × α1 × α2 => e0 (a.1) ++ e1 (a.2.1) ++ e2 (a.2.2)) (fun H a => .agg [d0 H (a.1), d1 H (a.2.1), d2 H (a.2.2)]) (fun a => g0 (a.1) ∧ g1 (a.2.1) ∧ g2 (a.2.2)) := ⟨fun a => by simp only [List.length_append, F0.len, F1.len, F2.len], hC, fun h => by
 obtain ⟨s, v, q, p, r, u, m, rfl, rfl, g, k, l⟩ := trod_cells3 hs hone hC h
 obtain ⟨e, j, rfl, f⟩ := F0.dec g
 obtain ⟨c, n, rfl, d⟩ := F1.dec k
 obtain ⟨i, o, rfl, b⟩ := F2.dec l
 refine ⟨(e, c, i), ?_, rfl, f, d, b⟩
 simp only
 rw [← j, ← n, ← o]; rfl⟩
theorem flat_idx {α : Type} {enc : α → List Value} {k : Nat} (hk : ∀ a, (enc a).length = k) (hp : 0 < k) {xs : List α} {j : Nat} {u : Value} (h : (xs.flatMap enc)[j]? = some u) : ∃ x, xs[j / k]? = some x ∧ (enc x)[j % k]? = some u := by
 have hlen : ∀ l : List α, (l.flatMap enc).length = l.length * k := fun l => by
  induction l with
  | nil => simp
  | cons a l ih => rw [List.flatMap_cons, List.length_append, ih, hk, List.length_cons, Nat.succ_mul]; omega
 have hj := (List.getElem?_eq_some_iff.1 h).1
 rw [hlen] at hj
 have hi : j / k < xs.length := Nat.div_lt_of_lt_mul (by rw [Nat.mul_comm]; exact hj)
 obtain ⟨x, hx⟩ := zU xs (j / k) hi
 have := flat_at enc k hk xs (j / k) (j % k) hx (Nat.mod_lt _ hp)
 rw [Nat.mul_comm, Nat.div_add_mod, h] at this
 exact ⟨x, hx, this.symm⟩
theorem add_two (a : Addr) {i j l : Nat} (h : j = i + l) : a.add j = (a.add i).add l := by
 by_cases b : i = 0
 ·subst b; rw [Nat.zero_add] at h; subst h; simp [Addr.add]
 ·by_cases c : l = 0
  ·subst c; subst h; simp [Addr.add]
  ·have : j ≠ 0 := by omega
   simp only [Addr.add, b, c, this, if_false]; subst h; rw [Nat.add_assoc]
variable {H : Type} {en : TypeId × Value → H} {w : World} {base n : Nat} {spare : Nat → Bool} {held : Bool} {cs : List Value} {x : DataW H × List MemPlace}
theorem open_flat {e k : Nat} {α : Type} {enc : α → List Value} {dat : (H : Type) → α → DataW H} {good : α → Prop} (F : Flat P e k enc dat good) (hp : 0 < k) (ht : P.underlying t = some (.slice e)) (h : DataW.trod en P w base spare held n t cs = some x) :
  ∃ v, ∃ xs : List α, ∃ rest : List (DataW H), cs = [v] ∧ Rd w enc v xs ∧ CapOk v ∧ (∀ a ∈ xs, good a) ∧ (x.1 = .nil ∧ xs = [] ∨ x.1 = .slice (xs.map (dat H)) rest) := by
 rcases DataW.trod_slice ht h with ⟨rfl, rfl⟩ | ⟨a, len, cap, elems, rest, m, _, rfl, rfl, hb, hl, hm, hlen, hel, _, _⟩
 ·exact ⟨_, [], [], rfl, ⟨none, 0, rfl, .inl rfl⟩, (fun a n c q => by cases q; exact Nat.le_refl _), (fun _ q => by cases q), .inl ⟨rfl, rfl⟩⟩
 ·have hz : ∀ i, i < len → ∃ b : α, elems[i]? = some (dat H b, []) ∧ good b ∧ w.cells? base (a.add (i * P.cellsOf e)) (P.cellsOf e) = some (enc b) := by
   intro i hi
   have q := hel i hi
   obtain ⟨y, hy⟩ := zU elems i (by omega)
   rw [hy, Option.bind_eq_some_iff] at q
   obtain ⟨cs', o, p⟩ := q
   obtain ⟨b, rfl, rfl, g⟩ := F.dec p
   exact ⟨b, hy, g, o⟩
  obtain ⟨xs, hxl, hx⟩ := all_choose hz
  refine ⟨_, xs, rest.map (·.1), rfl, ?_, fun a' n' c' q => by cases q; exact hl, fun b hb => ?_, .inr ?_⟩
  ·refine ⟨some a, cap, by rw [hxl], ?_⟩
   by_cases l : xs.length = 0
   ·exact .inl l
   ·right
    have cell : ∀ j u, (xs.flatMap enc)[j]? = some u → w.cell? (a.add j) = some u := by
     intro j u hu
     obtain ⟨b, f, d⟩ := flat_idx F.len hp hu
     obtain ⟨_, hcl, hc⟩ := World.cells?_some (hx _ _ f).2.2
     rw [F.size] at hc
     have := hc (j % k) (Nat.mod_lt _ hp)
     rw [d] at this
     rw [← this, show a.add j = (a.add (j / k * k)).add (j % k) from add_two a (by have := Nat.div_add_mod j k; rw [Nat.mul_comm] at this; omega)]
    obtain ⟨g, off, spot⟩ := a
    have hspot : spot = none := by
     obtain ⟨b, hb⟩ := zU xs 0 (by omega)
     obtain ⟨u, hu⟩ := zU (enc b) 0 (by rw [F.len]; exact hp)
     have := flat_at enc k F.len xs 0 0 hb hp
     rw [hu] at this
     simpa [Addr.add] using World.cell?_spot (cell _ _ this)
    subst hspot
    exact ⟨g, off, rfl, fun j u hu => by have := cell j u hu; rw [Go.WideShapes.add_plain] at this; exact this⟩
  ·obtain ⟨i, hi⟩ := List.getElem?_of_mem hb
   exact (hx i b hi).2.1
  ·have : elems.map (·.1) = xs.map (dat H) := by
    apply List.ext_getElem?
    intro i
    rw [List.getElem?_map, List.getElem?_map]
    by_cases hi : i < len
    ·obtain ⟨b, hb⟩ := zU xs i (by omega)
     rw [hb, (hx i b hb).1]; rfl
    ·rw [List.getElem?_eq_none (by omega), List.getElem?_eq_none (by omega)]; rfl
   rw [this]
theorem open_rdF {v : Value} {d : DataW H} {ps : List MemPlace} {e k b0 : Nat} {α : Type} {enc : α → List Value} {dat : (H : Type) → α → DataW H} {good : α → Prop} (F : Flat P e k enc dat good) (hp : 0 < k) (ht : P.underlying t = some (.slice e)) (hok : Value.okWide P w .any b0 t v) (h : DataW.Trod en P w base spare held t v d ps) :
  ∃ xs : List α, ∃ rest : List (DataW H), Rd w enc v xs ∧ CapOk v ∧ (∀ a ∈ xs, good a) ∧ (d = .nil ∧ xs = [] ∨ d = .slice (xs.map (dat H)) rest) := by
 obtain ⟨a, len, cap, rfl⟩ := okWide_slice ht hok
 obtain ⟨fuel, hf⟩ := h
 obtain ⟨v', xs, rest, hv, g, f, b, c⟩ := open_flat F hp ht hf
 simp [Value.cells] at hv
 subst hv
 exact ⟨xs, rest, g, f, b, c⟩
end
end Go.FK
end

/- === PHexM === -/
section
/- Plain functions of chapter 4: code points in hexadecimal. -/
namespace Go.FK
open Go Go.RowKit
def hexTab : List UInt8 := [48, 49, 50, 51, 52, 53, 54, 55, 56, 57, 65, 66, 67, 68, 69, 70]
def digitV (c : Nat) : Int := if 48 ≤ c ∧ c ≤ 57 then (c : Int) - 48 else if 65 ≤ c ∧ c ≤ 70 then (c : Int) - 55 else -1
theorem digitV_range (c : Nat) : -1 ≤ digitV c ∧ digitV c ≤ 15 := by
 unfold digitV; repeat' split
 all_goals omega
set_option maxRecDepth 100000 in
theorem ibF_tab (c : UInt8) : ibF [48, 49, 50, 51, 52, 53, 54, 55, 56, 57, 65, 66, 67, 68, 69, 70] ((c.toNat : Nat) : Int) = digitV c.toNat := by
 have key : (List.range 256).all (fun n => Lib.indexByte hexTab (UInt8.ofNat n) == digitV n) = true := by kernel_rfl
 have h := List.all_eq_true.1 key c.toNat (List.mem_range.2 (by have := c.toNat_lt; omega))
 have a : Lib.indexByte hexTab (UInt8.ofNat c.toNat) = digitV c.toNat := by simpa using h
 unfold ibF
 rw [Int.toNat_natCast]
 exact a
def hexV : List UInt8 → Nat → Option Nat
  | [], n => some n
  | c :: l, n => if digitV c.toNat < 0 then none else hexV l (16 * n + (digitV c.toNat).toNat)
def hexF (s : List UInt8) : Int × Int :=
  if (s.length < 4 ∨ 6 < s.length) ∨ (4 < s.length ∧ s.getD 0 0 = 48) then (0, 40) else
  match hexV s 0 with
  | none => (0, 40)
  | some n => if 1114111 < n then (0, 40) else ((n : Int), 0)
theorem hexF_len {s : List UInt8} (h : s.length < 4 ∨ 6 < s.length) : hexF s = (0, 40) := by unfold hexF; rw [if_pos (.inl h)]
theorem hexF_zero {s : List UInt8} {c : UInt8} (h : 4 < s.length) (hc : s[0]? = some c) (h0 : c.toNat = 48) : hexF s = (0, 40) := by
 have : c = 48 := UInt8.toNat_inj.1 h0
 unfold hexF; rw [if_pos (.inr ⟨h, by rw [List.getD_eq_getElem?_getD, hc, this]; rfl⟩)]
theorem hexF_bad {s : List UInt8} {i n : Nat} {c : UInt8} (hi : hexV (s.drop i) n = hexV s 0) (hc : s[i]? = some c) (hd : digitV c.toNat < 0) : hexF s = (0, 40) := by
 rw [wV hc, hexV, if_pos hd] at hi
 unfold hexF
 split
 ·rfl
 ·rw [← hi]
theorem hexV_step {s : List UInt8} {i n : Nat} {c : UInt8} (hi : hexV (s.drop i) n = hexV s 0) (hc : s[i]? = some c) (hd : 0 ≤ digitV c.toNat) : hexV (s.drop (i + 1)) (16 * n + (digitV c.toNat).toNat) = hexV s 0 := by
 rw [wV hc, hexV, if_neg (by omega)] at hi
 exact hi
theorem hexV_end {s : List UInt8} {i n : Nat} (hi : hexV (s.drop i) n = hexV s 0) (h : s.length ≤ i) : hexV s 0 = some n := by
 rw [List.drop_eq_nil_of_le h, hexV] at hi; exact hi.symm
theorem hexF_big {s : List UInt8} {n : Nat} (h : hexV s 0 = some n) (hn : 1114111 < n) : hexF s = (0, 40) := by
 unfold hexF
 split
 ·rfl
 ·rw [h]; simp only; rw [if_pos hn]
theorem hexF_ok {s : List UInt8} {n : Nat} (h : hexV s 0 = some n) (hn : n ≤ 1114111) (h1 : 4 ≤ s.length) (h2 : s.length ≤ 6) (h3 : s.length ≤ 4 ∨ ∃ c, s[0]? = some c ∧ c.toNat ≠ 48) : hexF s = ((n : Int), 0) := by
 unfold hexF
 rw [if_neg, h]
 ·simp only; rw [if_neg (by omega)]
 ·intro hx
  rcases hx with hx | ⟨hx, a⟩
  ·omega
  ·rcases h3 with h3 | ⟨c, hc, hne⟩
   ·omega
   ·rw [List.getD_eq_getElem?_getD, hc] at a
    apply hne
    have : c = 48 := a
    rw [this]; rfl
theorem pow16 {i n : Nat} (h : n < 16 ^ i) (hi : i ≤ 5) : n < 1048576 := by
 have := Nat.pow_le_pow_right (n := 16) (by omega) hi
 omega
theorem pow16s {i n b : Nat} (h : n < 16 ^ i) (hb : b < 16) : 16 * n + b < 16 ^ (i + 1) := by
 rw [Nat.pow_succ]; omega
theorem pow166 {i n : Nat} (h : n < 16 ^ i) (hi : i ≤ 6) : n < 16777216 := by
 have := Nat.pow_le_pow_right (n := 16) (by omega) hi
 omega
def mayF (lo hi : Int) : Bool := decide (0 ≤ lo ∧ lo ≤ hi ∧ hi ≤ 1114111)
end Go.FK
namespace Go.FK
open Go Go.RowKit
def digInv (b : Int) (i : Nat) : Prop := ∀ (j : Nat) (c : UInt8), j < i → ([48, 49, 50, 51, 52, 53, 54, 55, 56, 57, 65, 66, 67, 68, 69, 70] : List UInt8)[j]? = some c → (c.toNat : Int) ≠ b
def hexDig (n i : Nat) : UInt8 := hexTab.getD (n / 16 ^ i % 16) 0
def cntD (n : Nat) : Nat := if n < 65536 then 4 else if n < 1048576 then 5 else 6
def digsD (n l : Nat) : List UInt8 := ((List.range l).map (hexDig n)).reverse
def showF (r : Int) : List UInt8 × Int := if r < 0 ∨ 1114111 < r then ([], 40) else (digsD r.toNat (cntD r.toNat), 0)
theorem digsD_len (n l : Nat) : (digsD n l).length = l := by simp [digsD]
theorem cntD_le (n : Nat) : 4 ≤ cntD n ∧ cntD n ≤ 6 := by
 unfold cntD
 split
 ·omega
 ·split <;> omega
theorem cnt_lt {n l : Nat} (h : 0 < n / 16 ^ l) (hn : n ≤ 1114111) (hl : l ≤ cntD n) : l < cntD n := by
 rcases Nat.lt_or_ge l (cntD n) with a | a
 ·exact a
 ·exfalso
  obtain rfl : l = cntD n := by omega
  have : n / 16 ^ cntD n = 0 := by
   apply Nat.div_eq_of_lt
   unfold cntD
   split
   ·simpa using by assumption
   ·split
    ·simpa using by assumption
    ·simp; omega
  omega
theorem cnt_end {n l : Nat} (h : n / 16 ^ l = 0) (h4 : 4 ≤ l) (hl : l ≤ cntD n) : l = cntD n := by
 have hlt : n < 16 ^ l := by
  rcases Nat.lt_or_ge n (16 ^ l) with a | a
  ·exact a
  ·have := Nat.div_pos a (Nat.pow_pos (n := l) (show 0 < 16 by omega)); omega
 rcases Nat.lt_or_ge l (cntD n) with a | a
 ·exfalso
  unfold cntD at a
  split at a
  ·omega
  ·split at a
   ·obtain rfl : l = 4 := by omega
    simp at hlt; omega
   ·have e : l = 4 ∨ l = 5 := by omega
    rcases e with rfl | rfl <;> (simp at hlt; omega)
 ·omega
theorem digs_succ {n l : Nat} {c : UInt8} (hc : hexTab[n / 16 ^ l % 16]? = some c) : c :: digsD n l = digsD n (l + 1) := by
 unfold digsD
 rw [List.range_succ, List.map_append, List.reverse_append]
 have : hexDig n l = c := by unfold hexDig; rw [List.getD_eq_getElem?_getD, hc]; rfl
 simp [this]
end Go.FK
namespace Go.FK
def showSpanF (lo hi : Int) : List UInt8 × Int := if mayF lo hi = false then ([], 41) else if lo = hi then ((showF lo).1, 0) else ((showF lo).1 ++ [46, 46] ++ (showF hi).1, 0)
theorem showF_bad {r : Int} (h : r < 0 ∨ 1114111 < r) : showF r = ([], 40) := by unfold showF; rw [if_pos h]
theorem showF_ok {r : Int} (h1 : 0 ≤ r) (h2 : r ≤ 1114111) : showF r = (digsD r.toNat (cntD r.toNat), 0) := by unfold showF; rw [if_neg (by omega)]
theorem showF_len (r : Int) : (showF r).1.length ≤ 6 := by
 unfold showF
 split
 ·simp
 ·simp only; rw [digsD_len]; exact (cntD_le _).2
def dotsN (s : List UInt8) : Nat → Nat → Option Nat
  | 0, _ => none
  | f + 1, i => if i + 1 < s.length then (if s.getD i 0 = 46 ∧ s.getD (i + 1) 0 = 46 then some i else dotsN s f (i + 1)) else none
def dotsFrom (s : List UInt8) (i : Nat) : Option Nat := dotsN s (s.length - i) i
def spanF (s : List UInt8) : Int × Int × Int :=
  match dotsFrom s 0 with
  | none => if (hexF s).2 ≠ 0 then (0, 0, (hexF s).2) else ((hexF s).1, (hexF s).1, 0)
  | some a => if (hexF (s.take a)).2 ≠ 0 ∨ (hexF (s.drop (a + 2))).2 ≠ 0 then (0, 0, 40) else if (hexF (s.drop (a + 2))).1 < (hexF (s.take a)).1 then (0, 0, 41) else ((hexF (s.take a)).1, (hexF (s.drop (a + 2))).1, 0)
def atInv (s : List UInt8) (i : Nat) (at_ : Int) : Prop := (at_ = -1 ∧ dotsFrom s i = dotsFrom s 0) ∨ (0 ≤ at_ ∧ at_.toNat + 1 < s.length ∧ dotsFrom s 0 = some at_.toNat)
end Go.FK
namespace Go.FK
open Go Go.RowKit
end Go.FK
namespace Go.FK
open Go Go.RowKit
def lowB (l : List UInt8) : List Int := l.reverse.map fun c => (c.toNat : Int)
theorem lowB_back (l : List UInt8) : bytesI (List.reverse (lowB l)) = l := by
 unfold lowB bytesI
 rw [← List.map_reverse, List.reverse_reverse, List.map_map]
 have : ((fun n : Int => UInt8.ofNat n.toNat) ∘ fun c : UInt8 => (c.toNat : Int)) = id := by
  funext c; simp
 rw [this, List.map_id]
theorem show_stepR {r : Nat} {acc : List Int} {z : Int} {c : UInt8} (i2 : z = ((r / 16 ^ acc.length : Nat) : Int)) (i3 : acc = lowB (digsD r acc.length)) (hc : ([48, 49, 50, 51, 52, 53, 54, 55, 56, 57, 65, 66, 67, 68, 69, 70] : List UInt8)[z.toNat % 16]? = some c) :
  z / 16 = ((r / 16 ^ (acc ++ [((c.toNat : Nat) : Int)]).length : Nat) : Int) ∧ acc ++ [((c.toNat : Nat) : Int)] = lowB (digsD r (acc ++ [((c.toNat : Nat) : Int)]).length) := by
 have hl : (acc ++ [((c.toNat : Nat) : Int)]).length = acc.length + 1 := by simp
 rw [hl]
 refine ⟨?_, ?_⟩
 ·rw [Nat.pow_succ, ← Nat.div_div_eq_div_mul]
  generalize r / 16 ^ acc.length = q at *; omega
 ·have h : hexTab[r / 16 ^ acc.length % 16]? = some c := by
   have e : r / 16 ^ acc.length % 16 = z.toNat % 16 := by generalize r / 16 ^ acc.length = q at *; omega
   rw [e]; exact hc
  rw [← digs_succ h]
  unfold lowB
  rw [List.reverse_cons, List.map_append]
  congr 1
theorem show_factsR {r : Nat} {acc : List Int} {z : Int} (i1 : acc.length ≤ cntD r) (i2 : z = ((r / 16 ^ acc.length : Nat) : Int)) (hr : r ≤ 1114111) : 0 ≤ z ∧ z ≤ 1114111 ∧ (0 < z → acc.length < cntD r) := by
 have hd := Nat.div_le_self r (16 ^ acc.length)
 refine ⟨?_, ?_, fun h => cnt_lt ?_ hr i1⟩ <;> (generalize r / 16 ^ acc.length = q at *; omega)
theorem show_endR {r : Nat} {acc : List Int} {z : Int} (i1 : acc.length ≤ cntD r) (i2 : z = ((r / 16 ^ acc.length : Nat) : Int)) (i3 : acc = lowB (digsD r acc.length)) (hz : z ≤ 0) (h4 : 4 ≤ acc.length) : bytesI (List.reverse acc) = digsD r (cntD r) := by
 have hq : r / 16 ^ acc.length = 0 := by generalize r / 16 ^ acc.length = q at i2 ⊢; omega
 have he := cnt_end (n := r) (l := acc.length) hq h4 i1
 rw [i3, lowB_back, he]
end Go.FK
namespace Go.FK
open Go Go.RowKit
end Go.FK
end

/- === PWordM === -/
section
/- PWords: the plain functions of chapter 05 (words): no program in sight. -/
namespace Go.FK
open Go
def blankB (r : Int) : Bool := r == 9 || r == 11 || r == 12 || r == 32 || r == 133 || r == 160 || r == 5760 || r == 8232 || r == 8233 || r == 8239 || r == 8287 || r == 12288 || (decide (8192 ≤ r) && decide (r ≤ 8202))
def runesN (s : List UInt8) : Nat → Nat → List Int
  | 0, _ => []
  | n + 1, pos => if pos < s.length then ((dec s pos).1 : Int) :: runesN s n (pos + (dec s pos).2) else []
theorem runesN_end {s : List UInt8} : ∀ {n pos : Nat}, s.length ≤ pos → runesN s n pos = []
 | 0, _, _ => rfl
 | n + 1, pos, h => by rw [runesN, if_neg (by omega)]
theorem runesN_fuel {s : List UInt8} : ∀ (n m pos : Nat), s.length - pos ≤ n → s.length - pos ≤ m → runesN s n pos = runesN s m pos := by
 intro n
 induction n with
 | zero => intro m pos h _; rw [runesN_end (by omega), runesN_end (by omega)]
 | succ n ih =>
  intro m pos hn hm
  by_cases h : pos < s.length
  ·cases m with
   | zero => omega
   | succ m =>
    have := dec_pos s pos
    rw [runesN, runesN, if_pos h, if_pos h, ih m _ (by omega) (by omega)]
  ·rw [runesN_end (by omega), runesN_end (by omega)]
def runesFrom (s : List UInt8) (pos : Nat) : List Int := runesN s (s.length - pos) pos
theorem xW {s : List UInt8} {pos : Nat} (h : pos < s.length) : runesFrom s pos = ((dec s pos).1 : Int) :: runesFrom s (pos + (dec s pos).2) := by
 have := dec_pos s pos
 unfold runesFrom
 rw [runesN_fuel (s.length - pos) (s.length - pos + 1) pos (by omega) (by omega), runesN, if_pos h]
 rw [runesN_fuel (s.length - pos) (s.length - (pos + (dec s pos).2)) _ (by omega) (by omega)]
theorem runesFrom_end {s : List UInt8} {pos : Nat} (h : s.length ≤ pos) : runesFrom s pos = [] := runesN_end h
def wordsN (s : List UInt8) : Nat → Nat → Int → List (Int × List UInt8)
  | 0, _, fr => if 0 ≤ fr then [(fr, s.drop fr.toNat)] else []
  | n + 1, pos, fr =>
    if pos < s.length then
      if blankB (dec s pos).1 = true then
        if 0 ≤ fr then (fr, (s.take pos).drop fr.toNat) :: wordsN s n (pos + (dec s pos).2) (-1) else wordsN s n (pos + (dec s pos).2) fr
      else if fr < 0 then wordsN s n (pos + (dec s pos).2) pos else wordsN s n (pos + (dec s pos).2) fr
    else if 0 ≤ fr then [(fr, s.drop fr.toNat)] else []
def wordsFrom (s : List UInt8) (pos : Nat) (fr : Int) : List (Int × List UInt8) := wordsN s (s.length - pos) pos fr
def wordsOf (s : List UInt8) : List (Int × List UInt8) := wordsFrom s 0 (-1)
def longN (b : Int) : Nat := if b < 128 then 1 else if b < 192 ∨ 247 < b then 0 else if b < 224 then 2 else if b < 240 then 3 else 4
def scalarB (r : Int) : Bool := decide (0 ≤ r) && decide (r ≤ 1114111) && (decide (r < 55296) || decide (57343 < r))
def widthN (r : Int) : Nat := if scalarB r = true then if r < 128 then 1 else if r < 2048 then 2 else if r < 65536 then 3 else 4 else 0
def bitsT : List Nat := [0, 127, 31, 15, 7]
def leastT : List Nat := [0, 0, 128, 2048, 65536]
def atN (s : List UInt8) (p : Nat) : Nat → Nat → Nat → Nat × Nat
  | 0, _, x => (0, x)
  | f + 1, i, x => match s[p + i]? with
    | none => (11, 0)
    | some b => if b.toNat < 128 ∨ 191 < b.toNat then (12, 0) else atN s p f (i + 1) (x * 64 + b.toNat - 128)
def finF (n : Nat) (r : Nat × Nat) : Nat × Int × Int :=
  if r.1 ≠ 0 then (1, 65533, r.1) else if r.2 < leastT.getD n 0 then (1, 65533, 13) else if 55296 ≤ r.2 ∧ r.2 ≤ 57343 then (1, 65533, 14) else if 1114111 < r.2 then (1, 65533, 15) else (n, r.2, 0)
def atG (s : List UInt8) (p n i x : Nat) : Nat × Int × Int := finF n (atN s p (n - i) i x)
def atF (s : List UInt8) (p : Nat) : Nat × Int × Int :=
  let c := (s.getD p 0).toNat
  if longN c = 0 then (1, 65533, 10) else atG s p (longN c) 1 (c &&& bitsT.getD (longN c) 0)
def atH (s : List UInt8) (p i x : Nat) : Nat × Int × Int := atG s p (longN (((s.getD p 0).toNat : Nat) : Int)) i x
def encSpot (x : Nat × Nat × Int × Int) : List Value := [.int .i64 (x.1 : Int), .int .i64 (x.2.1 : Int), .int .i32 x.2.2.1, .int .i64 x.2.2.2]
def spotsN (s : List UInt8) : Nat → Nat → List (Nat × Nat × Int × Int)
  | 0, _ => []
  | f + 1, p => if p < s.length then (p, (atF s p).1, (atF s p).2.1, (atF s p).2.2) :: spotsN s f (p + (atF s p).1) else []
def spotsFrom (s : List UInt8) (p : Nat) : List (Nat × Nat × Int × Int) := spotsN s (s.length - p) p
def rrunes (s : List UInt8) : List Int := (spotsFrom s 0).map fun x => x.2.2.1
def dropW (r : Int) : Bool := blankB r || r == 95 || r == 45
def lowerI (r : Int) : Int := if 65 ≤ r ∧ r ≤ 90 then r + 32 else r
def looseL (l : List Int) : List Int := (l.filter (fun r => !dropW r)).map lowerI
theorem wW (r : Int) (l : List Int) : looseL (r :: l) = if dropW r then looseL l else lowerI r :: looseL l := by
 cases h : dropW r <;> simp [looseL, h]
def looseS (s : List UInt8) : List UInt8 := encL (looseL (runesFrom s 0))
def alikeB (a b : List UInt8) : Bool := decide (looseS a = looseS b)
def shortTab : List (List UInt8) := [[], [76], [82], [65, 76], [69, 78], [69, 83], [69, 84], [65, 78], [67, 83], [78, 83, 77], [66, 78], [66], [83], [87, 83], [79, 78], [76, 82, 69], [76, 82, 79], [82, 76, 69], [82, 76, 79], [80, 68, 70], [76, 82, 73], [82, 76, 73], [70, 83, 73], [80, 68, 73]]
def longTab : List (List UInt8) := [[], [76, 101, 102, 116, 95, 84, 111, 95, 82, 105, 103, 104, 116], [82, 105, 103, 104, 116, 95, 84, 111, 95, 76, 101, 102, 116], [65, 114, 97, 98, 105, 99, 95, 76, 101, 116, 116, 101, 114], [69, 117, 114, 111, 112, 101, 97, 110, 95, 78, 117, 109, 98, 101, 114], [69, 117, 114, 111, 112, 101, 97, 110, 95, 83, 101, 112, 97, 114, 97, 116, 111, 114], [69, 117, 114, 111, 112, 101, 97, 110, 95, 84, 101, 114, 109, 105, 110, 97, 116, 111, 114], [65, 114, 97, 98, 105, 99, 95, 78, 117, 109, 98, 101, 114], [67, 111, 109, 109, 111, 110, 95, 83, 101, 112, 97, 114, 97, 116, 111, 114], [78, 111, 110, 115, 112, 97, 99, 105, 110, 103, 95, 77, 97, 114, 107], [66, 111, 117, 110, 100, 97, 114, 121, 95, 78, 101, 117, 116, 114, 97, 108], [80, 97, 114, 97, 103, 114, 97, 112, 104, 95, 83, 101, 112, 97, 114, 97, 116, 111, 114], [83, 101, 103, 109, 101, 110, 116, 95, 83, 101, 112, 97, 114, 97, 116, 111, 114], [87, 104, 105, 116, 101, 95, 83, 112, 97, 99, 101], [79, 116, 104, 101, 114, 95, 78, 101, 117, 116, 114, 97, 108], [76, 101, 102, 116, 95, 84, 111, 95, 82, 105, 103, 104, 116, 95, 69, 109, 98, 101, 100, 100, 105, 110, 103], [76, 101, 102, 116, 95, 84, 111, 95, 82, 105, 103, 104, 116, 95, 79, 118, 101, 114, 114, 105, 100, 101], [82, 105, 103, 104, 116, 95, 84, 111, 95, 76, 101, 102, 116, 95, 69, 109, 98, 101, 100, 100, 105, 110, 103], [82, 105, 103, 104, 116, 95, 84, 111, 95, 76, 101, 102, 116, 95, 79, 118, 101, 114, 114, 105, 100, 101], [80, 111, 112, 95, 68, 105, 114, 101, 99, 116, 105, 111, 110, 97, 108, 95, 70, 111, 114, 109, 97, 116], [76, 101, 102, 116, 95, 84, 111, 95, 82, 105, 103, 104, 116, 95, 73, 115, 111, 108, 97, 116, 101], [82, 105, 103, 104, 116, 95, 84, 111, 95, 76, 101, 102, 116, 95, 73, 115, 111, 108, 97, 116, 101], [70, 105, 114, 115, 116, 95, 83, 116, 114, 111, 110, 103, 95, 73, 115, 111, 108, 97, 116, 101], [80, 111, 112, 95, 68, 105, 114, 101, 99, 116, 105, 111, 110, 97, 108, 95, 73, 115, 111, 108, 97, 116, 101]]
def shortS (c : Int) : List UInt8 := if 1 ≤ c ∧ c ≤ 23 then shortTab.getD c.toNat [] else []
def longS (c : Int) : List UInt8 := if 1 ≤ c ∧ c ≤ 23 then longTab.getD c.toNat [] else []
def shortF (c : Int) : List UInt8 := if 15 ≤ c then shortS c else []
def longF (c : Int) : List UInt8 := if 15 ≤ c then longS c else []
def toldE (c : Int) : Int := if 1 ≤ c ∧ c ≤ 23 then 0 else 2
def classN (name : List UInt8) : Nat → Int → Int × Int
  | 0, _ => (0, 50)
  | n + 1, c => if c ≤ 23 then if alikeB name (shortS c) = true then (c, 0) else if alikeB name (longS c) = true then (c, 0) else classN name n (c + 1) else (0, 50)
def classFrom (name : List UInt8) (c : Int) : Int × Int := classN name (24 - c).toNat c
def classF (name : List UInt8) : Int × Int := classFrom name 1
def cstep (st : List Int × Int × Int) (x : Int × List UInt8) : List Int × Int × Int :=
  if st.2.2 ≠ 0 then st else if (classF x.2).2 ≠ 0 then ([], x.1, (classF x.2).2) else (st.1 ++ [(classF x.2).1], 0, 0)
def classesF (s : List UInt8) : List Int × Int × Int := (wordsOf s).foldl cstep ([], 0, 0)
def letterS (c : Int) : List UInt8 := if c = 0 then [110] else if c = 1 then [111] else if c = 2 then [99] else []
def letterE (c : Int) : Int := if c = 0 ∨ c = 1 ∨ c = 2 then 0 else 2
def sideTab : List (List UInt8) := [[78, 111, 110, 101], [79, 112, 101, 110], [67, 108, 111, 115, 101]]
def sideN (name : List UInt8) : List (List UInt8) → Int → Int × Int
  | [], _ => (0, 51)
  | x :: l, c => if alikeB name (letterS c) = true then (c, 0) else if alikeB name x = true then (c, 0) else sideN name l (c + 1)
def sideFrom (name : List UInt8) (k : Nat) : Int × Int := sideN name (sideTab.drop k) k
theorem wP {name x : List UInt8} {k : Nat} (h : sideTab[k]? = some x) : sideFrom name k = if alikeB name (letterS k) = true then ((k : Int), 0) else if alikeB name x = true then ((k : Int), 0) else sideFrom name (k + 1) := by
 unfold sideFrom
 rw [wV h, sideN]; rfl
theorem sideFrom_end {name : List UInt8} {k : Nat} (h : 3 ≤ k) : sideFrom name k = (0, 51) := by
 unfold sideFrom
 rw [List.drop_eq_nil_of_le (by simpa [sideTab] using h)]; rfl
theorem sideTab_len {k : Nat} {x : List UInt8} (h : sideTab[k]? = some x) : x.length ≤ 30 := by
 have : ∀ y ∈ sideTab, y.length ≤ 30 := by decide
 exact this x (List.mem_of_getElem? h)
theorem letterS_len (c : Int) : (letterS c).length ≤ 30 := by
 unfold letterS; repeat' split
 all_goals simp
def sideF (name : List UInt8) : Int × Int := sideFrom name 0
end Go.FK
end

/- === PBr3 === -/
section
/- PBr3: chapter 8: a book's rows by rising numbers; what a book writes; what a text is read as. My own text. -/
namespace Go.FK
def insI (x : Int) : List Int → List Int
  | [] => [x]
  | y :: l => if x ≤ y then x :: y :: l else y :: insI x l
def srtI : List Int → List Int
  | [] => []
  | x :: l => insI x (srtI l)
theorem insI_perm (x : Int) : ∀ l : List Int, (insI x l).Perm (x :: l)
 | [] => List.Perm.refl _
 | y :: l => by
  rw [insI]
  split
  ·exact List.Perm.refl _
  ·exact ((insI_perm x l).cons y).trans (List.Perm.swap ..)
theorem srtI_perm : ∀ l : List Int, (srtI l).Perm l
 | [] => List.Perm.refl _
 | x :: l => (insI_perm x _).trans ((srtI_perm l).cons x)
theorem insI_pw (x : Int) : ∀ l : List Int, l.Pairwise (· ≤ ·) → (insI x l).Pairwise (· ≤ ·)
 | [], _ => List.pairwise_singleton ..
 | y :: l, h => by
  have a := List.pairwise_cons.1 h
  rw [insI]
  split
  ·rename_i hxy
   refine List.pairwise_cons.2 ⟨fun z hz => ?_, h⟩
   rcases List.mem_cons.1 hz with rfl | hz
   ·exact hxy
   ·exact Int.le_trans hxy (a.1 z hz)
  ·rename_i hxy
   refine List.pairwise_cons.2 ⟨fun z hz => ?_, insI_pw x l a.2⟩
   rcases List.mem_cons.1 ((insI_perm x l).mem_iff.1 hz) with rfl | hz
   ·omega
   ·exact a.1 z hz
theorem srtI_pw : ∀ l : List Int, (srtI l).Pairwise (· ≤ ·)
 | [] => List.Pairwise.nil
 | x :: l => insI_pw x _ (srtI_pw l)
theorem pw_unique : ∀ {l1 l2 : List Int}, l1.Perm l2 → l1.Pairwise (· ≤ ·) → l2.Pairwise (· ≤ ·) → l1 = l2
 | [], l2, h, _, _ => h.nil_eq
 | x :: l1, [], h, _, _ => absurd h.length_eq (by simp)
 | x :: l1, y :: l2, h, h1, h2 => by
  have a := List.pairwise_cons.1 h1
  have b := List.pairwise_cons.1 h2
  have e : x = y := by
   rcases List.mem_cons.1 (h.mem_iff.1 (List.mem_cons_self ..)) with e | hx
   ·exact e
   ·rcases List.mem_cons.1 (h.mem_iff.2 (List.mem_cons_self ..)) with e | hy
    ·exact e.symm
    ·exact Int.le_antisymm (a.1 y hy) (b.1 x hx)
  subst e
  rw [pw_unique ((List.perm_cons x).1 h) a.2 b.2]
theorem Srt.pw {l : List Int} {n : Nat} (h : Srt l 0 n) (hn : n = l.length) : l.Pairwise (· ≤ ·) := by
 subst hn
 rw [List.pairwise_iff_getElem]
 intro i j hi hj hij
 have := h i j (Nat.zero_le _) hij hj
 rw [el_some (List.getElem?_eq_getElem hi), el_some (List.getElem?_eq_getElem hj)] at this
 exact this
def keysB (m : List (Int × Brk)) : List Int := srtI (m.map (·.1))
def rowsB (m : List (Int × Brk)) : List Brk := (keysB m).map (lookB m)
theorem keysB_len (m : List (Int × Brk)) : (keysB m).length = m.length := by rw [keysB, (srtI_perm _).length_eq, List.length_map]
theorem wE (m : List (Int × Brk)) : (rowsB m).length = m.length := by rw [rowsB, List.length_map, keysB_len]
theorem keys_sorted {xs ys : List Int} {m : List (Int × Brk)} {n : Nat} (hp : xs.Perm (m.map (·.1))) (hw : Sw 0 n xs ys) (hs : Srt ys 0 n) (hn : n = xs.length) : ys = keysB m :=
 pw_unique (hw.perm.trans (hp.trans (srtI_perm _).symm)) (hs.pw (by rw [hw.len]; exact hn)) (srtI_pw _)
theorem rows_take {m : List (Int × Brk)} {i : Nat} {r : Int} (h : (keysB m)[i]? = some r) : ((rowsB m).take i) ++ [lookB m r] = (rowsB m).take (i + 1) := by
 rw [List.take_add_one, rowsB, List.getElem?_map, h]; rfl
theorem rows_pre {m : List (Int × Brk)} {i : Nat} {r : Int} (h : (keysB m)[i]? = some r) : ((rowsB m).take i) ++ [lookB m r] <+: rowsB m := by
 rw [rows_take h]; exact List.take_prefix _ _
def lineB (x : Brk) : List UInt8 := (showF x.1).1 ++ [59, 32] ++ (showF x.2.1).1 ++ [59, 32] ++ letterS x.2.2 ++ [10]
def writeB (m : List (Int × Brk)) : List UInt8 := (rowsB m).flatMap lineB
theorem lineB_len (x : Brk) : (lineB x).length ≤ 47 := by
 have a := showF_len x.1
 have c := showF_len x.2.1
 have b := letterS_len x.2.2
 unfold lineB
 simp only [List.length_append, List.length_cons, List.length_nil]
 omega
theorem flatB_len : ∀ l : List Brk, (l.flatMap lineB).length ≤ 47 * l.length
 | [] => Nat.le_refl _
 | x :: l => by
  have a := lineB_len x
  have b := flatB_len l
  rw [List.flatMap_cons, List.length_append, List.length_cons]
  omega
theorem wT (m : List (Int × Brk)) : (writeB m).length ≤ 47 * m.length := by
 have := flatB_len (rowsB m)
 rwa [wE] at this
theorem wrB_len {acc : List UInt8} {pre : List Brk} {x : Brk} {m : List (Int × Brk)} (h : acc = pre.flatMap lineB) (hp : pre ++ [x] <+: rowsB m) : acc.length + 47 ≤ 47 * m.length := by
 have a := hp.length_le
 rw [List.length_append, List.length_singleton, wE] at a
 have b := flatB_len pre
 rw [h]; omega
theorem wrB_step {acc : List UInt8} {pre : List Brk} {x : Brk} (h : acc = pre.flatMap lineB) : acc ++ ((showF x.1).1 ++ [59, 32] ++ (showF x.2.1).1 ++ [59, 32] ++ letterS x.2.2 ++ [10]) = (pre ++ [x]).flatMap lineB := by
 rw [List.flatMap_append, ← h, List.flatMap_singleton]; rfl
end Go.FK
end

/- === PScn === -/
section
/- PScn: the fields of a line are no longer than the line. My own text. -/
namespace Go.FK
open Go Go.RowKit
theorem splF_el (b : UInt8) : ∀ (s : List UInt8), ∀ x ∈ splF b s, x.length ≤ s.length
 | [], x, h => by rw [splF] at h; rw [List.mem_singleton.1 h]; exact Nat.le_refl _
 | c :: l, x, h => by
  rw [splF] at h
  rw [List.length_cons]
  split at h
  ·rcases List.mem_cons.1 h with rfl | h
   ·exact Nat.zero_le _
   ·have := splF_el b l x h; omega
  ·obtain ⟨p, r, e⟩ := splF_ne b l
   have ih := splF_el b l
   rw [e] at h ih
   rcases List.mem_cons.1 h with rfl | h
   ·have := ih p List.mem_cons_self
    rw [List.length_cons]; omega
   ·have := ih x (List.mem_cons_of_mem _ h); omega
theorem fields_el {s x : List UInt8} (h : x ∈ fieldsF s) : x.length ≤ s.length := by
 unfold fieldsF at h
 split at h
 ·cases h
 ·obtain ⟨y, hy, rfl⟩ := List.mem_map.1 h
  exact Nat.le_trans (trm_len _) (splF_el 59 s y hy)
theorem cut_el {s x : List UInt8} (h : x ∈ (cutF s).1) : x.length ≤ s.length := Nat.le_trans (fields_el (show x ∈ fieldsF (Lib.cut s [35]).1 from h)) (wC s [35]).1
theorem ord_len (s : List UInt8) : (ordF s).2.1.length ≤ s.length := by
 have a := (wC ((headF s).drop 1) [58]).2
 have b := headF_len s
 rw [List.length_drop] at a
 unfold ordF; omega
theorem scan_parts {no : Int} {s : List UInt8} (n : Nat) (hs : s.length ≤ n) : (∀ x ∈ (scanF no s).1.2.2.2.1, x.length ≤ n) ∧ (scanF no s).1.2.2.2.2.length ≤ n := by
 have b : (noteF s).length ≤ n := Nat.le_trans (noteF_len s) hs
 have f : ((noteF s).drop 9).length ≤ n := by rw [List.length_drop]; omega
 have z : (∀ x ∈ zeroL.2.2.2.1, x.length ≤ n) ∧ zeroL.2.2.2.2.length ≤ n := ⟨fun x hx => (by cases hx), Nat.zero_le _⟩
 unfold scanF
 by_cases e : (chkF s).2 ≠ 0
 ·rw [if_pos e]; exact z
 ·rw [if_neg e]
  by_cases c : headF s = []
  ·rw [if_pos c]
   by_cases a : hpB (noteF s) missT = true
   ·rw [if_pos a]; exact ⟨fun x hx => Nat.le_trans (cut_el hx) f, Nat.le_trans (cutF_len _) f⟩
   ·rw [if_neg a]; exact ⟨fun x hx => (by cases hx), b⟩
  ·rw [if_neg c]
   by_cases a : hpB (headF s) [64] = true
   ·rw [if_pos a]
    by_cases d : (ordF s).2.2 = false ∨ nameF (ordF s).1 = false
    ·rw [if_pos d]; exact z
    ·rw [if_neg d]; exact ⟨fun x hx => Nat.le_trans (fields_el hx) (Nat.le_trans (ord_len s) hs), b⟩
   ·rw [if_neg a]; exact ⟨fun x hx => Nat.le_trans (cut_el hx) hs, b⟩
end Go.FK
end

/- === PBr4 === -/
section
/- PBr4: chapter 8: what a fault says (numbers below 100); what a text is read as. My own text. -/
namespace Go.FK
open Go Go.RowKit
def dg2 (n : Int) : List UInt8 := if n < 10 then [UInt8.ofNat (48 + n.toNat)] else [UInt8.ofNat (48 + n.toNat / 10), UInt8.ofNat (48 + n.toNat % 10)]
theorem dg2_len (n : Int) : (dg2 n).length ≤ 2 := by unfold dg2; split <;> simp
theorem itoa2 {P : Program} {f : FuncId} (h : ∀ (i : Nat) (hi : i < 100) (w : World), Calls P f #[.int .i64 i] w fun e w' => e = .returned (.string ⟨(Lib.decDigits i).toArray⟩) ∧ w' = w)
  (n : Int) (w : World) (h0 : 0 ≤ n ∧ n < 100) : Calls P f #[.int .i64 n] w (Ret fun v w' => v = S (dg2 n) ∧ Below w.heap.size w w') := by
 obtain ⟨k, rfl⟩ := Int.eq_ofNat_of_zero_le h0.1
 refine (h k (by omega) w).mono ?_
 rintro e w' ⟨rfl, rfl⟩
 refine ⟨_, rfl, ?_, Below.refl _ _⟩
 have e : Lib.decDigits k = dg2 (k : Int) := by
  unfold dg2
  by_cases hk : k < 10
  ·rw [Lib.decDigits_one hk, if_pos (by omega)]; rfl
  ·rw [Lib.decDigits_two hk (by omega), if_neg (by omega)]; rfl
 rw [e]; rfl
def errD (e : Int) : List UInt8 := ([101, 114, 114, 111, 114, 32] : List UInt8) ++ dg2 e
def fltD (f : List UInt8) (l e : Int) : List UInt8 :=
  if f = [] then ((([108, 105, 110, 101, 32] : List UInt8) ++ dg2 l) ++ ([58, 32] : List UInt8)) ++ errD e
  else (((f ++ ([58] : List UInt8)) ++ dg2 l) ++ ([58, 32] : List UInt8)) ++ errD e
theorem errD_len (e : Int) : (errD e).length ≤ 8 := by
 have := dg2_len e
 unfold errD; rw [List.length_append]; simp only [List.length_cons, List.length_nil]; omega
def encTw (x : Int × Int) : List Value := [.int .i32 x.1, .int .i32 x.2]
def readB (k : Int) (f : List (List UInt8)) : Brk × Bool × Int :=
  if k = 2 then ((0, 0, 0), false, 80)
  else if k = 1 then
    if f.length ≠ 3 then ((0, 0, 0), false, 80)
    else if (hexF (f.getD 0 [])).2 ≠ 0 then ((0, 0, 0), false, (hexF (f.getD 0 [])).2)
    else if (hexF (f.getD 1 [])).2 ≠ 0 then ((0, 0, 0), false, (hexF (f.getD 1 [])).2)
    else if (sideF (f.getD 2 [])).2 ≠ 0 then ((0, 0, 0), false, (sideF (f.getD 2 [])).2)
    else (((hexF (f.getD 0 [])).1, (hexF (f.getD 1 [])).1, (sideF (f.getD 2 [])).1), true, 0)
  else ((0, 0, 0), false, 0)
section
variable {k : Int} {f : List (List UInt8)} {a b c : List UInt8}
theorem gd_some {i : Nat} (h : f[i]? = some a) : f.getD i [] = a := by rw [List.getD_eq_getElem?_getD, h]; rfl
theorem rd_order (h : k = 2) : readB k f = ((0, 0, 0), false, 80) := if_pos h
theorem rd_few (h : k = 1) (hl : f.length ≠ 3) : readB k f = ((0, 0, 0), false, 80) := by unfold readB; rw [if_neg (by omega), if_pos h, if_pos hl]
theorem rd_none (h : k ≠ 2) (h1 : k ≠ 1) : readB k f = ((0, 0, 0), false, 0) := by unfold readB; rw [if_neg h, if_neg h1]
theorem rd_a (h : k = 1) (hl : f.length = 3) (ha : f[0]? = some a) (h1 : (hexF a).2 ≠ 0) : readB k f = ((0, 0, 0), false, (hexF a).2) := by
 unfold readB; rw [if_neg (by omega), if_pos h, if_neg (by omega), gd_some ha, if_pos h1]
theorem rd_b (h : k = 1) (hl : f.length = 3) (ha : f[0]? = some a) (h1 : (hexF a).2 = 0) (hb : f[1]? = some b) (h2 : (hexF b).2 ≠ 0) : readB k f = ((0, 0, 0), false, (hexF b).2) := by
 unfold readB; rw [if_neg (by omega), if_pos h, if_neg (by omega), gd_some ha, if_neg (by omega), gd_some hb, if_pos h2]
theorem rd_s (h : k = 1) (hl : f.length = 3) (ha : f[0]? = some a) (h1 : (hexF a).2 = 0) (hb : f[1]? = some b) (h2 : (hexF b).2 = 0) (hc : f[2]? = some c) (h3 : (sideF c).2 ≠ 0) : readB k f = ((0, 0, 0), false, (sideF c).2) := by
 unfold readB; rw [if_neg (by omega), if_pos h, if_neg (by omega), gd_some ha, if_neg (by omega), gd_some hb, if_neg (by omega), gd_some hc, if_pos h3]
theorem rd_ok (h : k = 1) (hl : f.length = 3) (ha : f[0]? = some a) (h1 : (hexF a).2 = 0) (hb : f[1]? = some b) (h2 : (hexF b).2 = 0) (hc : f[2]? = some c) (h3 : (sideF c).2 = 0) : readB k f = (((hexF a).1, (hexF b).1, (sideF c).1), true, 0) := by
 unfold readB; rw [if_neg (by omega), if_pos h, if_neg (by omega), gd_some ha, if_neg (by omega), gd_some hb, if_neg (by omega), gd_some hc, if_neg (by omega)]
end
abbrev lnB (x : Int × List UInt8) : Brk × Bool × Int := readB (scanF x.1 x.2).1.2.1 (scanF x.1 x.2).1.2.2.2.1
def parB : List (Int × List UInt8) → List Brk → List Int → (List Brk × List Int) × Int × Int
  | [], rows, ats => ((rows, ats), 0, 0)
  | x :: l, rows, ats =>
    if (scanF x.1 x.2).2 ≠ 0 then ((rows, ats), x.1, (scanF x.1 x.2).2)
    else if (lnB x).2.2 ≠ 0 then ((rows, ats), x.1, (lnB x).2.2)
    else if (lnB x).2.1 = false then parB l rows ats
    else if addE (kv rows) (lnB x).1 ≠ 0 then ((rows, ats), x.1, addE (kv rows) (lnB x).1)
    else parB l (rows ++ [(lnB x).1]) (ats ++ [x.1])
def parF (s : List UInt8) : (List Brk × List Int) × Int × Int :=
  if (parB (toldF s) [] []).2.2 ≠ 0 then parB (toldF s) [] []
  else match loneI (kv (parB (toldF s) [] []).1.1) (parB (toldF s) [] []).1.1 0 with
    | some i => ((parB (toldF s) [] []).1, (parB (toldF s) [] []).1.2.getD i 0, 82)
    | none => parB (toldF s) [] []
def ParI (pre : List (Int × List UInt8)) (rows : List Brk) (ats : List Int) : Prop := ∀ r, parB (pre ++ r) [] [] = parB r rows ats
section
variable {pre t : List (Int × List UInt8)} {rows : List Brk} {ats : List Int} {x : Int × List UInt8} {s : List UInt8}
theorem ParI.nil : ParI [] [] [] := fun r => rfl
theorem ParI.skip (h : ParI pre rows ats) (h1 : (scanF x.1 x.2).2 = 0) (h2 : (lnB x).2.2 = 0) (h3 : (lnB x).2.1 = false) : ParI (pre ++ [x]) rows ats := fun r => by
 rw [List.append_assoc, h]; show parB (x :: r) rows ats = _
 rw [parB, if_neg (by omega), if_neg (by omega), if_pos h3]
theorem ParI.add (h : ParI pre rows ats) (h1 : (scanF x.1 x.2).2 = 0) (h2 : (lnB x).2.2 = 0) (h3 : (lnB x).2.1 = true) (h4 : addE (kv rows) (lnB x).1 = 0) : ParI (pre ++ [x]) (rows ++ [(lnB x).1]) (ats ++ [x.1]) := fun r => by
 rw [List.append_assoc, h]; show parB (x :: r) rows ats = _
 rw [parB, if_neg (by omega), if_neg (by omega), if_neg (by rw [h3]; decide), if_neg (by omega)]
theorem par_at (h : ParI pre rows ats) (hp : pre ++ [x] <+: toldF s) : ∃ l, parB (toldF s) [] [] = parB (x :: l) rows ats := by
 obtain ⟨l, hl⟩ := hp
 exact ⟨l, by rw [← hl, List.append_assoc, h]; rfl⟩
theorem par_scan (h : ParI pre rows ats) (hp : pre ++ [x] <+: toldF s) (h1 : (scanF x.1 x.2).2 ≠ 0) : (parF s).2 = (x.1, (scanF x.1 x.2).2) := by
 obtain ⟨l, hl⟩ := par_at h hp
 have e : parB (toldF s) [] [] = ((rows, ats), x.1, (scanF x.1 x.2).2) := by rw [hl, parB, if_pos h1]
 unfold parF; rw [e, if_pos h1]
theorem par_read (h : ParI pre rows ats) (hp : pre ++ [x] <+: toldF s) (h1 : (scanF x.1 x.2).2 = 0) (h2 : (lnB x).2.2 ≠ 0) : (parF s).2 = (x.1, (lnB x).2.2) := by
 obtain ⟨l, hl⟩ := par_at h hp
 have e : parB (toldF s) [] [] = ((rows, ats), x.1, (lnB x).2.2) := by rw [hl, parB, if_neg (by omega), if_pos h2]
 unfold parF; rw [e, if_pos h2]
theorem par_add (h : ParI pre rows ats) (hp : pre ++ [x] <+: toldF s) (h1 : (scanF x.1 x.2).2 = 0) (h2 : (lnB x).2.2 = 0) (h3 : (lnB x).2.1 = true) (h4 : addE (kv rows) (lnB x).1 ≠ 0) : (parF s).2 = (x.1, addE (kv rows) (lnB x).1) := by
 obtain ⟨l, hl⟩ := par_at h hp
 have e : parB (toldF s) [] [] = ((rows, ats), x.1, addE (kv rows) (lnB x).1) := by rw [hl, parB, if_neg (by omega), if_neg (by omega), if_neg (by rw [h3]; decide), if_pos h4]
 unfold parF; rw [e, if_pos h4]
theorem par_all (h : ParI (toldF s) rows ats) : parB (toldF s) [] [] = ((rows, ats), 0, 0) := by
 have := h []; rw [List.append_nil] at this; rw [this, parB]
theorem par_lone (h : ParI (toldF s) rows ats) (hi : 0 ≤ idxL (kv rows) rows) : (parF s).2 = (ats.getD (idxL (kv rows) rows).toNat 0, 82) := by
 unfold parF; rw [par_all h, if_neg (by simp)]
 unfold idxL at hi ⊢
 cases hq : loneI (kv rows) rows 0 with
 | none => rw [hq] at hi; simp only at hi; omega
 | some j => simp
theorem par_ok (h : ParI (toldF s) rows ats) (hi : idxL (kv rows) rows < 0) : parF s = ((rows, ats), 0, 0) := by
 unfold parF; rw [par_all h, if_neg (by simp)]
 unfold idxL at hi
 cases hq : loneI (kv rows) rows 0 with
 | none => rfl
 | some j => rw [hq] at hi; simp only at hi; omega
theorem par_add2 {ml : List (Int × Brk)} (h : ParI pre rows ats) (hp : pre ++ [x] <+: toldF s) (hm : ml = kv rows) (h1 : (scanF x.1 x.2).2 = 0) (h2 : (lnB x).2.2 = 0) (h3 : (lnB x).2.1 = true) (h4 : addE ml (lnB x).1 ≠ 0) : (parF s).2 = (x.1, addE ml (lnB x).1) := by
 subst hm; exact par_add h hp h1 h2 h3 h4
theorem par_lone2 {ml : List (Int × Brk)} (h : ParI (toldF s) rows ats) (hm : ml = kv rows) (hi : 0 ≤ idxL ml rows) : (parF s).2 = (ats.getD (idxL ml rows).toNat 0, 82) := by subst hm; exact par_lone h hi
theorem par_ok2 {ml : List (Int × Brk)} (h : ParI (toldF s) rows ats) (hm : ml = kv rows) (hi : idxL ml rows < 0) : parF s = ((rows, ats), 0, 0) := by subst hm; exact par_ok h hi
theorem addM_kv {ml : List (Int × Brk)} {y : Brk} (hm : ml = kv rows) (h : addE ml y = 0) : addM ml y = kv (rows ++ [y]) := by
 rw [addM_y h, kv_snoc, hm]
theorem add_kv {ml : List (Int × Brk)} {y : Brk} (hm : ml = kv rows) (h : addE ml y = 0) : addE (kv rows) y = 0 := hm ▸ h
theorem ats_at {i : Int} {y : Int} (h0 : 0 ≤ i) (h : ats[i.toNat]? = some y) : ats.getD i.toNat 0 = y := by rw [List.getD_eq_getElem?_getD, h]; rfl
theorem par_lone3 {ml : List (Int × Brk)} {y : Int} (h : ParI (toldF s) rows ats) (hm : ml = kv rows) (hi : 0 ≤ idxL ml rows) (hy : ats[(idxL ml rows).toNat]? = some y) : (parF s).2 = (y, 82) := by
 rw [par_lone2 h hm hi, ats_at hi hy]
end
end Go.FK
end

/- === PBr5 === -/
section
/- PBr5: chapter 8: twins. My own text. -/
namespace Go.FK
def cntT (m : List (Int × Brk)) (x : Int × Int) : Bool := (gget m x.1).isSome
def layT (m : List (Int × Brk)) (t : List (Int × Int)) (x : Int × Int) : List (Int × Int) := if cntT m x = true ∧ (gget t x.1).isSome = false then t ++ [(x.1, x.2)] else t
def twsM (m : List (Int × Brk)) (l : List (Int × Int)) : List (Int × Int) := l.foldl (layT m) []
def tw1 (t : List (Int × Int)) (r : Int) : Int := (gget t r).getD r
def badT (m : List (Int × Brk)) (t : List (Int × Int)) (x : Int × Int) : Bool :=
  cntT m x && (!(gget m x.2).isSome || !decide ((lookB m x.2).2.2 = (lookB m x.1).2.2) || (gget t x.2).isSome || !decide (tw1 t (lookB m x.1).2.1 = (lookB m x.2).2.1))
def badI (m : List (Int × Brk)) (t : List (Int × Int)) : List (Int × Int) → Nat → Option Nat
  | [], _ => none
  | x :: l, i => if badT m t x = true then some i else badI m t l (i + 1)
def twE (m : List (Int × Brk)) (l : List (Int × Int)) : Option Nat := badI m (twsM m l) l 0
section
variable {m : List (Int × Brk)} {t : List (Int × Int)} {l : List (Int × Int)} {i : Nat} {x : Int × Int}
def BadI (m : List (Int × Brk)) (t : List (Int × Int)) (l : List (Int × Int)) (i : Nat) : Prop := badI m t l 0 = badI m t (l.drop i) i
theorem BadI.hit (h : BadI m t l i) (hx : l[i]? = some x) (hn : badT m t x = true) : badI m t l 0 = some i := by
 rw [h, drop_at hx, badI, if_pos hn]
theorem BadI.end (h : BadI m t l i) (hi : l.length ≤ i) : badI m t l 0 = none := by
 rw [h, List.drop_eq_nil_of_le hi]; rfl
def twI (m : List (Int × Brk)) (l : List (Int × Int)) : Nat := (twE m l).getD 0
end
end Go.FK
end

/- === PBr6 === -/
section
/- PBr6: chapter 8: others, sides, twins, matches of a book that New or Twins made. My own text. -/
namespace Go.FK
def TwG (m : List (Int × Brk)) (t : List (Int × Int)) : Prop := t = [] ∨ ∃ l, t = twsM m l ∧ twE m l = none
section
variable {rows : List Brk} {t : List (Int × Int)} {x : Brk}
structure PairsP (m : List (Int × Brk)) (t : List (Int × Int)) (x : Brk) : Prop where
  p1 : (brkF m x.1).1 = x.2.1
  p2 : (brkF m x.1).2 = x.2.2
  p3 : (brkF m (brkF m x.1).1).1 = x.1
  p4 : (brkF m (brkF m x.1).1).2 ≠ (brkF m x.1).2
  p5 : (brkF m (brkF m x.1).1).2 ≠ 0
  p6 : (brkF m (twnF t x.1)).2 = (brkF m x.1).2
  p7 : twnF t (twnF t x.1) = twnF t x.1
  p8 : (brkF m (twnF t x.1)).1 = twnF t (brkF m x.1).1
  p9 : mtcF m t x.1 x.2.1 = true ↔ (brkF m x.1).2 = 1
  p10 : mtcF m t x.2.1 x.1 = true ↔ (brkF m x.1).2 = 2
  p11 : ∀ q, (brkF m q).2 = 0 → mtcF m t x.1 q = false ∧ mtcF m t q x.1 = false
end
theorem fst_code : ∀ (l done : List Brk) (i j : Nat) (e : Int), fstB done l i = some (j, e) → e = 80 ∨ e = 81
 | [], _, _, _, _, h => by cases h
 | x :: l, done, i, j, e, h => by
  rw [fstB] at h
  split at h
  ·cases h; exact .inl rfl
  ·split at h
   ·cases h; exact .inr rfl
   ·exact fst_code l _ _ _ _ h
theorem newE_code {rows : List Brk} (h : newB rows ≠ none) : newE rows = 80 ∨ newE rows = 81 ∨ newE rows = 82 := by
 unfold newE
 cases hq : newB rows with
 | none => exact absurd hq h
 | some p =>
  obtain ⟨i, e⟩ := p
  unfold newB at hq
  cases hf : fstB [] rows 0 with
  | some p =>
   rw [hf] at hq
   cases hq
   have := fst_code _ _ _ _ _ hf
   show e = 80 ∨ e = 81 ∨ e = 82
   omega
  | none =>
   rw [hf] at hq
   cases hl : loneI (kv rows) rows 0 with
   | none => rw [hl] at hq; cases hq
   | some k => rw [hl] at hq; cases hq; exact .inr (.inr rfl)
theorem newE_ne {rows : List Brk} (h : newB rows ≠ none) (h0 : newE rows = 0) : False := by have := newE_code h; omega
end Go.FK
end

/- === PLapart === -/
section
/- Plain laws of chapter 3: two texts, one behind the other: the lines of both, those of the second counted on. -/
namespace Go.FK
open Go Go.RowKit
def shP (n : Nat) (p : Nat × Nat × Nat) : Nat × Nat × Nat := (p.1 + n, p.2.1 + n, p.2.2 + n)
theorem getD_left {a b : List UInt8} {i : Nat} (h : i < a.length) : (a ++ b).getD i 0 = a.getD i 0 := by
 rw [List.getD_eq_getElem?_getD, List.getD_eq_getElem?_getD, List.getElem?_append_left h]
theorem getD_right {a b : List UInt8} (i : Nat) : (a ++ b).getD (i + a.length) 0 = b.getD i 0 := by
 rw [List.getD_eq_getElem?_getD, List.getD_eq_getElem?_getD, List.getElem?_append_right (by omega), Nat.add_sub_cancel]
theorem pcsN_right (a b : List UInt8) : ∀ (n fr i : Nat), fr ≤ i → pcsN (a ++ b) n (fr + a.length) (i + a.length) = (pcsN b n fr i).map (shP a.length)
 | 0, fr, i, h => by simp [pcsN, shP, Nat.add_comm]
 | n + 1, fr, i, h => by
  rw [pcsN, pcsN, getD_right]
  have d : i + a.length + 1 = (i + 1) + a.length := by omega
  split
  ·rw [d, pcsN_right a b n (i + 1) (i + 1) (Nat.le_refl _), List.map_cons]
   congr 1
   unfold shP
   simp only [Prod.mk.injEq, true_and]
   refine ⟨?_, trivial⟩
   unfold crN
   by_cases hc : fr < i
   ·have e : (a ++ b).getD (i + a.length - 1) 0 = b.getD (i - 1) 0 := by rw [show i + a.length - 1 = (i - 1) + a.length by omega, getD_right]
    rw [e]
    by_cases c : b.getD (i - 1) 0 = 13
    ·rw [if_pos ⟨by omega, c⟩, if_pos ⟨hc, c⟩]; omega
    ·rw [if_neg (fun q => c q.2), if_neg (fun q => c q.2)]
   ·rw [if_neg (fun q => hc (by have := q.1; omega)), if_neg (fun q => hc q.1)]
  ·rw [d, pcsN_right a b n fr (i + 1) (by omega)]
theorem pcsN_left (a b : List UInt8) (hl : a.getD (a.length - 1) 0 = 10) : ∀ (n fr i : Nat), n = a.length - i → fr ≤ i → i ≤ a.length → (i = a.length → fr = i) →
  ∃ init, pcsN a n fr i = init ++ [(a.length, a.length, a.length)] ∧ pcsN (a ++ b) (n + b.length) fr i = init ++ pcsN (a ++ b) b.length a.length a.length ∧ ∀ p ∈ init, p.1 ≤ p.2.1 ∧ p.2.1 ≤ a.length
 | 0, fr, i, hn, h1, h2, h3 => by
  obtain rfl : i = a.length := by omega
  obtain rfl := h3 rfl
  exact ⟨[], rfl, by rw [Nat.zero_add]; rfl, fun p hp => by cases hp⟩
 | n + 1, fr, i, hn, h1, h2, h3 => by
  have hi : i < a.length := by omega
  rw [show n + 1 + b.length = (n + b.length) + 1 by omega, pcsN, pcsN, getD_left hi]
  by_cases c : a.getD i 0 = 10
  ·rw [if_pos c, if_pos c]
   obtain ⟨init, d, g, f⟩ := pcsN_left a b hl n (i + 1) (i + 1) (by omega) (Nat.le_refl _) (by omega) (fun _ => rfl)
   have hcr : crN (a ++ b) fr i = crN a fr i := by
    unfold crN
    by_cases hc : fr < i
    ·rw [getD_left (by omega)]
    ·rw [if_neg (fun q => hc q.1), if_neg (fun q => hc q.1)]
   refine ⟨(fr, crN a fr i, i + 1) :: init, by rw [d]; rfl, by rw [g, hcr]; rfl, fun p hp => ?_⟩
   rcases List.mem_cons.1 hp with rfl | hp
   ·have := crN_le a fr i; simp only; omega
   ·exact f p hp
  ·rw [if_neg c, if_neg c]
   refine pcsN_left a b hl n fr (i + 1) (by omega) (by omega) (by omega) (fun e => ?_)
   exfalso
   apply c
   rw [show i = a.length - 1 by omega]; exact hl
theorem markN_app {a b : List UInt8} (hn : a ≠ []) (hl : a.getD (a.length - 1) 0 = 10) : markN (a ++ b) = markN a := by
 unfold markN hpB markT
 match a, hn with
 | [x], _ =>
  have : x = 10 := by simpa using hl
  subst this; simp [List.isPrefixOf]
 | [x, y], _ =>
  have : y = 10 := by simpa using hl
  subst this; simp [List.isPrefixOf]
 | x :: y :: z :: l, _ => simp [List.isPrefixOf]
theorem pcsR_app {a b : List UInt8} (hn : a ≠ []) (hl : a.getD (a.length - 1) 0 = 10) (hb : markN b = 0) : pcsR (a ++ b) = pcsR a ++ (pcsR b).map (shP a.length) := by
 unfold pcsR pcsFrom
 rw [markN_app hn hl, hb]
 have hm := mark_len a
 have g : markN a = a.length → markN a = markN a := fun _ => rfl
 obtain ⟨init, d, e, _⟩ := pcsN_left a b hl (a.length - markN a) (markN a) (markN a) rfl (Nat.le_refl _) hm (fun _ => rfl)
 rw [List.length_append, show a.length + b.length - markN a = (a.length - markN a) + b.length by omega, d, e]
 have c := pcsN_right a b b.length 0 0 (Nat.le_refl _)
 rw [Nat.zero_add] at c
 rw [c, List.filter_append, List.filter_append]
 have f : List.filter keepP [(a.length, a.length, a.length)] = [] := by simp [keepP]
 rw [f, List.append_nil, Nat.sub_zero]
 congr 1
 rw [List.filter_map]
 congr 1
 apply List.filter_congr
 intro p _
 simp [keepP, shP]
theorem toldR_app (s : List UInt8) : ∀ (l m : List (Nat × Nat × Nat)) (k : Nat), toldR s k (l ++ m) = toldR s k l ++ toldR s (k + l.length) m
 | [], m, k => by simp [toldR]
 | p :: l, m, k => by rw [List.cons_append, toldR, toldR_app s l m (k + 1), toldR, List.length_cons, show k + 1 + l.length = k + (l.length + 1) by omega]; rfl
theorem toldR_left (a b : List UInt8) : ∀ (l : List (Nat × Nat × Nat)) (k : Nat), (∀ p ∈ l, p.2.1 ≤ a.length) → toldR (a ++ b) k l = toldR a k l
 | [], k, h => rfl
 | p :: l, k, h => by
  rw [toldR, toldR, toldR_left a b l (k + 1) (fun q hq => h q (List.mem_cons_of_mem _ hq)), List.take_append_of_le_length (h p List.mem_cons_self)]
def shT (n : Nat) (x : Int × List UInt8) : Int × List UInt8 := (x.1 + n, x.2)
theorem toldR_right (a b : List UInt8) : ∀ (l : List (Nat × Nat × Nat)) (k n : Nat), toldR (a ++ b) (k + n) (l.map (shP a.length)) = (toldR b k l).map (shT n)
 | [], k, n => rfl
 | p :: l, k, n => by
  rw [List.map_cons, toldR, toldR, List.map_cons, show k + n + 1 = (k + 1) + n by omega, toldR_right a b l (k + 1) n]
  congr 1
  unfold shT shP
  simp only [Prod.mk.injEq]
  refine ⟨by omega, ?_⟩
  have c : (a ++ b).take (p.2.1 + a.length) = a ++ b.take p.2.1 := by rw [List.take_append, List.take_of_length_le (by omega), Nat.add_sub_cancel]
  rw [c, List.drop_append, List.drop_of_length_le (by omega), List.nil_append, Nat.add_sub_cancel]
theorem told_app {a b : List UInt8} (hn : a ≠ []) (hl : a.getD (a.length - 1) 0 = 10) (hb : markN b = 0) : toldF (a ++ b) = toldF a ++ (toldF b).map (shT (toldF a).length) := by
 rw [told_ref, told_ref, told_ref, pcsR_app hn hl hb, toldR_app, toldR_left a b (pcsR a) 0 (fun p hp => by
  obtain ⟨i, hi⟩ := List.mem_iff_getElem?.1 hp
  have := pcsR_ok hi; omega), toldR_len, toldR_right]
def shL (n : Nat) (x : LineD) : LineD := (x.1 + n, x.2)
section
variable {a b : List UInt8}
end
def shI (n i : Nat) (l : List LineD) : List LineD := (l.take i).map (shL n) ++ l.drop i
section
variable {F : Nat} {w w' : World} {B E k : Nat} {enc : LineV → List Value} {v u q : Value} {xs ys : List LineV}
end
end Go.FK
end

/- === PBr7 === -/
section
/- PBr7: chapter 8: what a book writes is read as the same. My own text. -/
namespace Go.FK
open Go Go.RowKit
theorem hexTab_dig : ∀ d : Nat, d < 16 → digitV (hexTab.getD d 0).toNat = (d : Int) := by decide
theorem hexTab_zero : ∀ d : Nat, d < 16 → hexTab.getD d 0 = 48 → d = 0 := by decide
theorem digs_cons (n l : Nat) : digsD n (l + 1) = hexDig n l :: digsD n l := by
 unfold digsD; rw [List.range_succ, List.map_append, List.reverse_append]; rfl
theorem hexDig_dig (n l : Nat) : digitV (hexDig n l).toNat = ((n / 16 ^ l % 16 : Nat) : Int) := hexTab_dig _ (Nat.mod_lt _ (by omega))
theorem hexV_digs (n : Nat) : ∀ (l m : Nat), hexV (digsD n l) m = some (m * 16 ^ l + n % 16 ^ l)
 | 0, m => by simp [digsD, hexV]; omega
 | l + 1, m => by
  rw [digs_cons, hexV, hexDig_dig, if_neg (by omega), hexV_digs n l, Int.toNat_natCast, Nat.mod_pow_succ, Nat.pow_succ]
  congr 1
  generalize n / 16 ^ l % 16 = q
  generalize n % 16 ^ l = r
  rw [Nat.add_mul, Nat.mul_comm (16 ^ l) q, Nat.mul_comm (16 ^ l) 16, ← Nat.mul_assoc, Nat.mul_comm m 16]
  omega
theorem cnt_pow {n : Nat} (h : n ≤ 1114111) : n < 16 ^ cntD n := by
 unfold cntD
 split
 ·simpa using by assumption
 ·split
  ·simpa using by assumption
  ·simp; omega
theorem digs_first {n : Nat} (h : n ≤ 1114111) (h4 : 4 < cntD n) : ∃ c, (digsD n (cntD n))[0]? = some c ∧ c.toNat ≠ 48 := by
 obtain ⟨k, hk⟩ : ∃ k, cntD n = k + 1 := ⟨cntD n - 1, by omega⟩
 refine ⟨hexDig n k, by rw [hk, digs_cons]; rfl, ?_⟩
 intro e
 have b : hexDig n k = 48 := UInt8.toNat_inj.1 e
 have a := hexTab_zero _ (Nat.mod_lt (n / 16 ^ k) (by omega)) b
 unfold cntD at hk h4
 split at hk
 ·rename_i h5; rw [if_pos h5] at h4; omega
 ·split at hk
  ·obtain rfl : k = 4 := by omega
   simp at a; omega
  ·obtain rfl : k = 5 := by omega
   simp at a; omega
theorem hex_show {r : Int} (h0 : 0 ≤ r) (h1 : r ≤ 1114111) : hexF (showF r).1 = (r, 0) := by
 rw [showF_ok h0 h1]
 have hn : r.toNat ≤ 1114111 := by omega
 have hc := cntD_le r.toNat
 have hv : hexV (digsD r.toNat (cntD r.toNat)) 0 = some r.toNat := by rw [hexV_digs, Nat.zero_mul, Nat.zero_add, Nat.mod_eq_of_lt (cnt_pow hn)]
 have := hexF_ok hv hn (by rw [digsD_len]; omega) (by rw [digsD_len]; omega) (by
  rw [digsD_len]
  rcases Nat.lt_or_ge 4 (cntD r.toNat) with h | h
  ·exact .inr (digs_first hn h)
  ·exact .inl h)
 rw [this, Int.toNat_of_nonneg h0]
def dgB (c : UInt8) : Bool := decide (48 ≤ c.toNat ∧ c.toNat ≤ 57) || decide (65 ≤ c.toNat ∧ c.toNat ≤ 70)
theorem dg_tab : ∀ d : Nat, d < 16 → dgB (hexTab.getD d 0) = true := by decide
theorem digs_dg (n l : Nat) : ∀ c ∈ digsD n l, dgB c = true := by
 intro c hc
 unfold digsD at hc
 rw [List.mem_reverse] at hc
 obtain ⟨i, _, rfl⟩ := List.mem_map.1 hc
 exact dg_tab _ (Nat.mod_lt _ (by omega))
theorem show_dg {r : Int} (h0 : 0 ≤ r) (h1 : r ≤ 1114111) : (∀ c ∈ (showF r).1, dgB c = true) ∧ 4 ≤ (showF r).1.length ∧ (showF r).1.length ≤ 6 := by
 rw [showF_ok h0 h1]
 have hc := cntD_le r.toNat
 refine ⟨digs_dg _ _, ?_, ?_⟩ <;> rw [digsD_len] <;> omega
theorem chk_plain {s : List UInt8} (hs : ∀ c ∈ s, 32 ≤ c.toNat ∧ c.toNat < 127) (hl : s.length ≤ 4096) : (chkF s).2 = 0 := by
 have key : ∀ (k p : Nat), s.length - p = k → p ≤ s.length → (chkL (charsFrom s p) p).2 = 0 := by
  intro k
  induction k with
  | zero => intro p hk hp; rw [chk_end (by omega)]
  | succ k ih =>
   intro p hk hp
   have hlt : p < s.length := by omega
   obtain ⟨c, hc⟩ : ∃ c, s[p]? = some c := ⟨s[p], List.getElem?_eq_getElem hlt⟩
   have hb := hs c (List.mem_of_getElem? hc)
   have hd := dec_low hc (by omega)
   rw [chk_on hlt (by omega) (by rw [wrong_eq, hd]; exact decide_eq_false (by simp only; omega)) (by rw [hd]; simp only; omega), hd]
   exact ih (p + 1) (by omega) (by omega)
 exact key s.length 0 (by omega) (by omega)
theorem trm_id {s : List UInt8} (hs : ∀ c ∈ s, c.toNat ≠ 32 ∧ c.toNat ≠ 9) : trmF s = s := by
 refine trm_done ?_
 cases hq : s with
 | nil => exact .inl rfl
 | cons a l =>
  rw [← hq]
  have hl : s.length = l.length + 1 := by rw [hq]; rfl
  have b : s[0]? = some a := by rw [hq]; rfl
  obtain ⟨d, hd⟩ : ∃ d, s[s.length - 1]? = some d := ⟨s[s.length - 1]'(by omega), List.getElem?_eq_getElem (by omega)⟩
  have e := hs a (List.mem_of_getElem? b)
  have f := hs d (List.mem_of_getElem? hd)
  exact .inr ⟨a, d, b, by omega, hd, by omega⟩
theorem nmem_of {s : List UInt8} {b : UInt8} (h : ∀ c ∈ s, c.toNat ≠ b.toNat) : b ∉ s := fun hb => h b hb rfl
theorem told_one {x : List UInt8} (h10 : ∀ c ∈ x, c.toNat ≠ 10) (h13 : ∀ c ∈ x, c.toNat ≠ 13) (hne : x ≠ []) (hm : markN (x ++ [10]) = 0) : toldF (x ++ [10]) = [(1, x)] := by
 have hlen : (x ++ [10]).length = x.length + 1 := by simp
 have key : ∀ k, k ≤ x.length → [] ++ (pcsFrom (x ++ [10]) 0 k).filter keepP = pcsR (x ++ [10]) := by
  intro k
  induction k with
  | zero => intro _; unfold pcsR; rw [hm]; rfl
  | succ k ih =>
   intro hk
   obtain ⟨c, hc⟩ : ∃ c, x[k]? = some c := ⟨x[k]'(by omega), List.getElem?_eq_getElem (by omega)⟩
   exact pr_on (by rw [List.getElem?_append_left (by omega)]; exact hc) (h10 c (List.mem_of_getElem? hc)) (ih (by omega))
 have hpos : 0 < x.length := List.length_pos_iff.2 hne
 obtain ⟨d, hd⟩ : ∃ d, x[x.length - 1]? = some d := ⟨x[x.length - 1]'(by omega), List.getElem?_eq_getElem (by omega)⟩
 have hcr : crN (x ++ [10]) 0 x.length = x.length := by
  unfold crN
  rw [if_neg]
  rintro ⟨_, e⟩
  rw [List.getD_eq_getElem?_getD, List.getElem?_append_left (by omega), hd] at e
  have e : d = 13 := e
  exact h13 d (List.mem_of_getElem? hd) (by rw [e]; rfl)
 have a := pr_nl (to := x.length) (Nat.zero_le _) (show (x ++ [10])[x.length]? = some 10 by simp) rfl hcr.symm (key x.length (Nat.le_refl _))
 rw [pcs_end (by omega)] at a
 rw [List.filter_cons, if_neg (by simp [keepP])] at a
 rw [told_ref, ← a]
 simp [toldR]
def plB (c : UInt8) : Bool := decide ((33 ≤ c.toNat ∧ c.toNat < 127) ∧ c.toNat ≠ 35 ∧ c.toNat ≠ 59 ∧ c.toNat ≠ 64)
theorem wQ {c : UInt8} (h : plB c = true) : (33 ≤ c.toNat ∧ c.toNat < 127) ∧ c.toNat ≠ 35 ∧ c.toNat ≠ 59 ∧ c.toNat ≠ 64 := of_decide_eq_true h
section
variable {A B C : List UInt8} (hA : ∀ c ∈ A, plB c = true) (hB : ∀ c ∈ B, plB c = true) (hC : ∀ c ∈ C, plB c = true) (nA : A ≠ []) (nC : C ≠ [])
def line3 (A B C : List UInt8) : List UInt8 := A ++ 59 :: (32 :: (B ++ 59 :: (32 :: C)))
include hA hB hC in
theorem l3_mem : ∀ c ∈ line3 A B C, 32 ≤ c.toNat ∧ c.toNat < 127 ∧ c.toNat ≠ 35 ∧ c.toNat ≠ 64 := by
 intro c hc
 unfold line3 at hc
 rcases List.mem_append.1 hc with h | h
 ·have := wQ (hA c h); omega
 ·rcases List.mem_cons.1 h with rfl | h
  ·decide
  ·rcases List.mem_cons.1 h with rfl | h
   ·decide
   ·rcases List.mem_append.1 h with h | h
    ·have := wQ (hB c h); omega
    ·rcases List.mem_cons.1 h with rfl | h
     ·decide
     ·rcases List.mem_cons.1 h with rfl | h
      ·decide
      ·have := wQ (hC c h); omega
include hA in
theorem trm_pl : trmF A = A := trm_id fun c hc => by have := wQ (hA c hc); omega
include hA hC nA nC in
theorem trm_l3 : trmF (line3 A B C) = line3 A B C := by
 obtain ⟨a, A', rfl⟩ : ∃ a A', A = a :: A' := by cases A with | nil => exact absurd rfl nA | cons a l => exact ⟨a, l, rfl⟩
 have hp := List.length_pos_iff.2 nC
 refine trm_done (.inr ⟨a, C.getLast nC, rfl, ?_, ?_, ?_⟩)
 ·have := wQ (hA a List.mem_cons_self); omega
 ·unfold line3
  have h : ((a :: A') ++ 59 :: (32 :: (B ++ 59 :: (32 :: C)))) = ((a :: A') ++ [59, 32] ++ B ++ [59, 32]) ++ C := by simp
  rw [h, List.getElem?_append_right (by simp only [List.length_append]; omega)]
  rw [List.getLast_eq_getElem]
  have e : ((a :: A') ++ [59, 32] ++ B ++ [59, 32] ++ C).length - 1 - ((a :: A') ++ [59, 32] ++ B ++ [59, 32]).length = C.length - 1 := by simp only [List.length_append]; omega
  rw [e]; exact List.getElem?_eq_getElem (by omega)
 ·have := wQ (hC _ (List.getLast_mem nC)); omega
theorem n59 {X : List UInt8} (h : ∀ c ∈ X, plB c = true) : (59 : UInt8) ∉ X := nmem_of fun c hc => by have := wQ (h c hc); show c.toNat ≠ 59; omega
theorem n59b {X : List UInt8} (h : ∀ c ∈ X, plB c = true) : (59 : UInt8) ∉ 32 :: X := nmem_of fun c hc => by
 rcases List.mem_cons.1 hc with rfl | hc
 ·decide
 ·have := wQ (h c hc); show c.toNat ≠ 59; omega
include hA hB hC nA nC in
theorem fields_l3 : fieldsF (line3 A B C) = [A, B, C] := by
 unfold fieldsF
 rw [trm_l3 hA hC nA nC, if_neg (by unfold line3; simp)]
 unfold line3
 have e : (32 :: (B ++ 59 :: (32 :: C)) : List UInt8) = (32 :: B) ++ 59 :: (32 :: C) := rfl
 rw [splF_run A _ (n59 hA), e, splF_run (32 :: B) _ (n59b hB), splF_one (32 :: C) (n59b hC)]
 simp only [List.map_cons, List.map_nil]
 rw [trm_pl hA, trm_cons B (by decide), trm_pl hB, trm_cons C (by decide), trm_pl hC]
include hA hB hC in
theorem cut_l3 : Lib.cut (line3 A B C) [35] = (line3 A B C, [], false) := by
 have hm := l3_mem hA hB hC
 rw [cut_unt]
 exact unt_none (i := (line3 A B C).length) (fun j c _ _ hc e => by have := hm c (List.mem_of_getElem? hc); rw [e] at this; exact this.2.2.1 rfl) (Nat.le_refl _)
include hA hB hC nA nC in
theorem scan_l3 (no : Int) (hl : (line3 A B C).length ≤ 4096) : scanF no (line3 A B C) = ((no, 1, [], [A, B, C], []), 0) := by
 have hm := l3_mem hA hB hC
 have hcut := cut_l3 hA hB hC
 have hch : (chkF (line3 A B C)).2 = 0 := chk_plain (fun c hc => by have := hm c hc; omega) hl
 have hhead : headF (line3 A B C) = line3 A B C := by unfold headF; rw [hcut]; exact trm_l3 hA hC nA nC
 have hnote : noteF (line3 A B C) = [] := by unfold noteF; rw [hcut]; rfl
 have hfld : (cutF (line3 A B C)).1 = [A, B, C] := by rw [cutF_head, hhead]; exact fields_l3 hA hB hC nA nC
 have hne : headF (line3 A B C) ≠ [] := by rw [hhead]; unfold line3; simp
 have b : hpB (headF (line3 A B C)) [64] = false := by
  rw [hhead]
  obtain ⟨a, A', rfl⟩ : ∃ a A', A = a :: A' := by cases A with | nil => exact absurd rfl nA | cons a l => exact ⟨a, l, rfl⟩
  exact hp_one_not (c := a) rfl (by have := wQ (hA a List.mem_cons_self); omega)
 rw [scan_data hch hne b, hfld, hnote]
end
theorem dg_pl {c : UInt8} (h : dgB c = true) : plB c = true := by
 unfold dgB at h; unfold plB
 simp only [Bool.or_eq_true, decide_eq_true_eq] at h
 exact decide_eq_true (by omega)
theorem let_pl {s : Int} (h : s = 1 ∨ s = 2) : (∀ c ∈ letterS s, plB c = true) ∧ letterS s ≠ [] := by
 rcases h with rfl | rfl <;> decide
theorem side_let {s : Int} (h : s = 1 ∨ s = 2) : sideF (letterS s) = (s, 0) := by
 rcases h with rfl | rfl <;> kernel_rfl
def lnOf (x : Brk) : List UInt8 := line3 (showF x.1).1 (showF x.2.1).1 (letterS x.2.2)
theorem lineB_eq (x : Brk) : lineB x = lnOf x ++ [10] := by unfold lineB lnOf line3; simp
theorem xQ {x : Brk} (h : mayR x = true) : (0 ≤ x.1 ∧ x.1 ≤ 1114111) ∧ (0 ≤ x.2.1 ∧ x.2.1 ≤ 1114111) ∧ (x.2.2 = 1 ∨ x.2.2 = 2) := by
 unfold mayR ptB at h
 simp only [Bool.and_eq_true, Bool.or_eq_true, decide_eq_true_eq] at h
 exact ⟨h.1.1.1, h.1.1.2, h.2⟩
section
variable {x : Brk} (h : mayR x = true)
include h
theorem ln_A : (∀ c ∈ (showF x.1).1, plB c = true) ∧ (showF x.1).1 ≠ [] := by
 have q := show_dg (xQ h).1.1 (xQ h).1.2
 exact ⟨fun c hc => dg_pl (q.1 c hc), List.length_pos_iff.1 (by omega)⟩
theorem ln_B : ∀ c ∈ (showF x.2.1).1, plB c = true := fun c hc => dg_pl ((show_dg (xQ h).2.1.1 (xQ h).2.1.2).1 c hc)
theorem ln_scan (no : Int) : scanF no (lnOf x) = ((no, 1, [], [(showF x.1).1, (showF x.2.1).1, letterS x.2.2], []), 0) := by
 have hl := lineB_len x
 rw [lineB_eq, List.length_append] at hl
 exact scan_l3 (ln_A h).1 (ln_B h) (let_pl (xQ h).2.2).1 (ln_A h).2 (let_pl (xQ h).2.2).2 no (by unfold lnOf at hl; omega)
theorem ln_read (no : Int) : lnB (no, lnOf x) = (x, true, 0) := by
 unfold lnB
 simp only
 rw [ln_scan h no]
 have ha := hex_show (xQ h).1.1 (xQ h).1.2
 have hb := hex_show (xQ h).2.1.1 (xQ h).2.1.2
 have hc := side_let (xQ h).2.2
 rw [rd_ok (a := (showF x.1).1) (b := (showF x.2.1).1) (c := letterS x.2.2) rfl rfl rfl (by rw [ha]) rfl (by rw [hb]) rfl (by rw [hc]), ha, hb, hc]
theorem ln_first : ∃ a r, lnOf x = a :: r ∧ a.toNat < 127 := by
 obtain ⟨b, c⟩ := ln_A h
 unfold lnOf line3
 cases hq : (showF x.1).1 with
 | nil => exact absurd hq c
 | cons a l => exact ⟨a, _, rfl, (wQ (b a (by rw [hq]; exact List.mem_cons_self))).1.2⟩
theorem mark_ln (r : List UInt8) : markN (lnOf x ++ r) = 0 := by
 obtain ⟨a, l, hq, ha⟩ := ln_first h
 unfold markN
 rw [if_neg]
 rw [hq]
 unfold hpB markT
 intro e
 simp only [List.cons_append, List.isPrefixOf, Bool.and_eq_true, beq_iff_eq] at e
 have := e.1; rw [← this] at ha; exact absurd ha (by decide)
theorem told_ln : toldF (lineB x) = [(1, lnOf x)] := by
 have hm := l3_mem (ln_A h).1 (ln_B h) (let_pl (xQ h).2.2).1
 obtain ⟨a, r, hq, ha⟩ := ln_first h
 rw [lineB_eq]
 exact told_one (fun c hc => by have := hm c hc; omega) (fun c hc => by have := hm c hc; omega) (by rw [hq]; simp) (mark_ln h _)
end
def tlB : Nat → List Brk → List (Int × List UInt8)
  | _, [] => []
  | k, x :: l => ((k : Int) + 1, lnOf x) :: tlB (k + 1) l
theorem tlB_sh : ∀ (l : List Brk) (k : Nat), (tlB k l).map (shT 1) = tlB (k + 1) l
 | [], _ => rfl
 | x :: l, k => by
  rw [tlB, tlB, List.map_cons, tlB_sh l (k + 1)]
  congr 1
theorem told_rows : ∀ l : List Brk, (∀ x ∈ l, mayR x = true) → toldF (l.flatMap lineB) = tlB 0 l
 | [], _ => rfl
 | x :: l, h => by
  have hx := h x (List.mem_cons_self ..)
  have hl := fun y hy => h y (List.mem_cons_of_mem _ hy)
  have hb : markN (l.flatMap lineB) = 0 := by
   cases l with
   | nil => rfl
   | cons y l => rw [List.flatMap_cons, lineB_eq, List.append_assoc]; exact mark_ln (hl y (List.mem_cons_self ..)) _
  have hn : lineB x ≠ [] := by rw [lineB_eq]; simp
  have hd : (lineB x).getD ((lineB x).length - 1) 0 = 10 := by
   rw [lineB_eq, List.getD_eq_getElem?_getD, List.length_append, List.length_singleton, Nat.add_sub_cancel, List.getElem?_append_right (Nat.le_refl _), Nat.sub_self]; rfl
  rw [List.flatMap_cons, told_app hn hd hb, told_ln hx, told_rows l hl, List.length_singleton, tlB_sh]
  rfl
def atB : Nat → List Brk → List Int
  | _, [] => []
  | k, _ :: l => ((k : Int) + 1) :: atB (k + 1) l
theorem nod_none {done l : List Brk} {x : Brk} (h : ((done ++ x :: l).map (·.1)).Nodup) : gget (kv done) x.1 = none := by
 rw [List.map_append, List.nodup_append] at h
 cases hq : gget (kv done) x.1 with
 | none => rfl
 | some y =>
  obtain ⟨hy, e⟩ := kv_mem hq
  exact absurd rfl (h.2.2 x.1 (by rw [← e]; exact List.mem_map_of_mem hy) x.1 (by rw [List.map_cons]; exact List.mem_cons_self ..))
theorem addE_ok {done l : List Brk} {x : Brk} (h : ((done ++ x :: l).map (·.1)).Nodup) (hx : mayR x = true) : addE (kv done) x = 0 := by
 unfold addE
 rw [if_neg (by rw [hx]; decide), if_neg (by rw [nod_none h]; decide)]
theorem par_rows : ∀ (l done : List Brk) (ats : List Int) (k : Nat), (∀ x ∈ l, mayR x = true) → ((done ++ l).map (·.1)).Nodup → parB (tlB k l) done ats = ((done ++ l, ats ++ atB k l), 0, 0)
 | [], done, ats, k, _, _ => by rw [tlB, parB, atB, List.append_nil, List.append_nil]
 | x :: l, done, ats, k, hm, hn => by
  have hx := hm x (List.mem_cons_self ..)
  have b := ln_scan hx ((k : Int) + 1)
  have a := ln_read hx ((k : Int) + 1)
  have c := addE_ok hn hx
  rw [tlB, parB]
  simp only
  rw [if_neg (by rw [b]; exact fun q => q rfl), if_neg (by rw [a]; exact fun q => q rfl), if_neg (by rw [a]; exact fun q => Bool.noConfusion q), if_neg (by rw [a]; exact fun q => q c), a]
  rw [par_rows l (done ++ [x]) _ (k + 1) (fun y hy => hm y (List.mem_cons_of_mem _ hy)) (by rw [List.append_assoc]; exact hn)]
  rw [atB, List.append_assoc, List.append_assoc]; rfl
theorem fst_of : ∀ (l done : List Brk) (i : Nat), (∀ x ∈ l, mayR x = true) → ((done ++ l).map (·.1)).Nodup → fstB done l i = none
 | [], _, _, _, _ => rfl
 | x :: l, done, i, hm, hn => by
  rw [fstB, if_neg (by rw [hm x (List.mem_cons_self ..)]; decide), if_neg (by rw [nod_none hn]; decide)]
  exact fst_of l (done ++ [x]) (i + 1) (fun y hy => hm y (List.mem_cons_of_mem _ hy)) (by rw [List.append_assoc]; exact hn)
theorem lone_of {m : List (Int × Brk)} : ∀ (l : List Brk) (i : Nat), (∀ x ∈ l, loneM m x = false) → loneI m l i = none
 | [], _, _ => rfl
 | x :: l, i, h => by
  rw [loneI, if_neg (by rw [h x (List.mem_cons_self ..)]; decide)]
  exact lone_of l (i + 1) (fun y hy => h y (List.mem_cons_of_mem _ hy))
theorem newB_of {rows : List Brk} (hb : BookOk rows) : newB rows = none := by
 unfold newB
 rw [fst_of rows [] 0 hb.may (by rw [List.nil_append]; exact hb.nodup)]
 simp only
 rw [lone_of rows 0 hb.pair]; rfl
theorem gget_perm {r1 r2 : List Brk} (hp : r1.Perm r2) (h1 : (r1.map (·.1)).Nodup) (r : Int) : gget (kv r1) r = gget (kv r2) r := by
 have a : (r2.map (·.1)).Nodup := (hp.map _).nodup_iff.1 h1
 cases hq : gget (kv r1) r with
 | some x =>
  obtain ⟨hx, e⟩ := kv_mem hq
  subst e
  exact (kv_get a (hp.mem_iff.1 hx)).symm
 | none =>
  cases hz : gget (kv r2) r with
  | none => rfl
  | some y =>
   obtain ⟨hy, e⟩ := kv_mem hz
   subst e
   rw [kv_get h1 (hp.mem_iff.2 hy)] at hq; cases hq
theorem BookOk.perm {r1 r2 : List Brk} (hb : BookOk r1) (hp : r1.Perm r2) : BookOk r2 := by
 refine ⟨fun x hx => hb.may x (hp.mem_iff.2 hx), (hp.map _).nodup_iff.1 hb.nodup, fun x hx => ?_⟩
 have h := hb.pair x (hp.mem_iff.2 hx)
 unfold loneM lookB at h ⊢
 rw [← gget_perm hp hb.nodup]; exact h
theorem kv_keys (rows : List Brk) : (kv rows).map (·.1) = rows.map (·.1) := by unfold kv; rw [List.map_map]; rfl
theorem look_all {rows : List Brk} (hn : (rows.map (·.1)).Nodup) : (rows.map (·.1)).map (lookB (kv rows)) = rows := by
 rw [List.map_map]
 conv => rhs; rw [← List.map_id rows]
 refine List.map_congr_left fun x hx => ?_
 show lookB (kv rows) x.1 = x
 unfold lookB; rw [kv_get hn hx]; rfl
theorem rowsB_perm {rows : List Brk} (hb : BookOk rows) : (rowsB (kv rows)).Perm rows := by
 unfold rowsB keysB
 rw [kv_keys]
 refine ((srtI_perm _).map _).trans (List.Perm.of_eq (look_all hb.nodup))
theorem rowsB_same {r1 r2 : List Brk} (hb : BookOk r1) (hp : r1.Perm r2) : rowsB (kv r1) = rowsB (kv r2) := by
 unfold rowsB keysB
 rw [kv_keys, kv_keys]
 have e : srtI (r1.map (·.1)) = srtI (r2.map (·.1)) := pw_unique ((srtI_perm _).trans ((hp.map _).trans (srtI_perm _).symm)) (srtI_pw _) (srtI_pw _)
 rw [e]
 refine List.map_congr_left fun r _ => ?_
 unfold lookB; rw [gget_perm hp hb.nodup]
theorem parF_rows {R : List Brk} (hb : BookOk R) : parF (R.flatMap lineB) = ((R, atB 0 R), 0, 0) := by
 have e : parB (toldF (R.flatMap lineB)) [] [] = ((R, atB 0 R), 0, 0) := by
  rw [told_rows R hb.may, par_rows R [] [] 0 hb.may (by rw [List.nil_append]; exact hb.nodup)]; rfl
 unfold parF
 rw [e, if_neg (by simp)]
 simp only
 rw [lone_of R 0 hb.pair]
theorem nodup_len {l : List Int} {n : Nat} (hn : l.Nodup) (h : ∀ x ∈ l, 0 ≤ x ∧ x < n) : l.length ≤ n := by
 have a : (l.map Int.toNat).Nodup := by
  rw [List.nodup_iff_pairwise_ne, List.pairwise_map]
  refine (List.nodup_iff_pairwise_ne.1 hn).imp_of_mem fun ha hb hne e => ?_
  have := h _ ha; have := h _ hb; omega
 have := nodup_lt n (l.map Int.toNat) a (fun i hi => by
  obtain ⟨x, hx, rfl⟩ := List.mem_map.1 hi
  have := h x hx; omega)
 rwa [List.length_map] at this
theorem book_len {rows : List Brk} (hb : BookOk rows) : rows.length ≤ 1114112 := by
 have := nodup_len (n := 1114112) hb.nodup (fun x hx => by
  obtain ⟨y, hy, rfl⟩ := List.mem_map.1 hx
  have := (xQ (hb.may y hy)).1; omega)
 rwa [List.length_map] at this
theorem kv_len (rows : List Brk) : (kv rows).length = rows.length := by unfold kv; rw [List.length_map]
end Go.FK
end

/- === FKaq === -/
section
/- FKaq: short laws for the walks' texts: what can be read off is read off, closed facts are defaults. My own text. -/
namespace Go.FK
open Go Go.RowKit
theorem zk {p : Prop} (h : p := by kernel_rfl) : p := h
theorem zo {p : Prop} (h : p := by omega) : p := h
theorem za {p : Prop} (h : p := by assumption) : p := h
theorem zl {p : Prop} (h : p := by (simp only [List.length_append, List.length_take, List.length_drop, List.length_replicate, List.length_cons, List.length_nil] <;> omega)) : p := h
@[reducible] def pt (b o : Nat) : Value := .pointer (some ⟨b, o, none⟩)
@[reducible] def I8 (x : Int) : Value := .int .i8 x
@[reducible] def I3 (x : Int) : Value := .int .i32 x
@[reducible] def I6 (x : Int) : Value := .int .i64 x
@[reducible] def U8 (x : Int) : Value := .int .u8 x
@[reducible] def N6 (x : Nat) : Value := .int .i64 (x : Int)
@[reducible] def vB (b : Bool) : Value := .bool b
@[reducible] def vF (b : Nat) : Value := .float .f64 b
@[reducible] def vx (v : Value) : Value := v
@[reducible] def ob (l : List Value) (E : TypeId) : Obj := .cells l.toArray E (0, 0)
theorem _root_.Go.RowKit.Below.tr {w a b : World} (hb : Below w.heap.size w a) (h : Below a.heap.size a b) : Below w.heap.size w b := hb.trans (h.mono hb.size)
theorem _root_.Go.RowKit.Below.tg {w a b : World} {v : Value} {B E k m : Nat} {xs : List Value} (hb : Below B w a) (hs : B ≤ a.heap.size) (hg : a.grownBy b v.ownBlock) (h : a.ownsRow B E k v m xs) : Below B w b :=
 hb.grown hg hs (fun k hk => (World.ownsRow.lt h k hk).1)
theorem New.ge {w a b : World} {k : Nat} {o : Obj} (h : New a b k o) (hb : w.heap.size ≤ a.heap.size) : w.heap.size ≤ k := by rw [h.num]; exact hb
theorem NE_ge {a b k : Nat} (h : a < k) (g : k ≤ b) : NE a b := by show _ ≠ _; omega
theorem yZ {w w' : World} {a b : Nat} {o : Obj} (h : a < w.heap.size) (hN : New w w' b o) : NE a b := by have := hN.num; show _ ≠ _; omega
section ops
variable {r : Option Nat} {P : Program} {n : Nat} {Q : Post} {s : Fm} {w : World} {ops : Array Oper} {rest : List Oper}
variable {d : Option Tmp} {ty : TypeId} {pos : String} {af : Array Edge}
variable {t yt : TypeId} {X Y : Operand}
theorem nEq (x y : Nat) (ht : x = y → L r P n ops Q rest (s.put d (.bool true)) w) (hf : x ≠ y → L r P n ops Q rest (s.put d (.bool false)) w) (hx : s.ev n X = .int .i64 x := by kernel_rfl) (hy : s.ev n Y = .int .i64 y := by kernel_rfl) : L r P n ops Q (⟨d, .binOp .eql t X Y yt, ty, pos, af, none⟩ :: rest) s w :=
 wZ .i64 x y (x = y) rfl (cmpN_eq x y) hx hy ht hf
theorem nNe (x y : Nat) (ht : x ≠ y → L r P n ops Q rest (s.put d (.bool true)) w) (hf : x = y → L r P n ops Q rest (s.put d (.bool false)) w) (hx : s.ev n X = .int .i64 x := by kernel_rfl) (hy : s.ev n Y = .int .i64 y := by kernel_rfl) : L r P n ops Q (⟨d, .binOp .neq t X Y yt, ty, pos, af, none⟩ :: rest) s w :=
 wZ .i64 x y (x ≠ y) rfl (cmpN_ne x y) hx hy ht (fun h => hf (by omega))
theorem nLt (x y : Nat) (ht : x < y → L r P n ops Q rest (s.put d (.bool true)) w) (hf : y ≤ x → L r P n ops Q rest (s.put d (.bool false)) w) (hx : s.ev n X = .int .i64 x := by kernel_rfl) (hy : s.ev n Y = .int .i64 y := by kernel_rfl) : L r P n ops Q (⟨d, .binOp .lss t X Y yt, ty, pos, af, none⟩ :: rest) s w :=
 wZ .i64 x y (x < y) rfl (cmpN_lt x y) hx hy ht (fun h => hf (by omega))
theorem nLe (x y : Nat) (ht : x ≤ y → L r P n ops Q rest (s.put d (.bool true)) w) (hf : y < x → L r P n ops Q rest (s.put d (.bool false)) w) (hx : s.ev n X = .int .i64 x := by kernel_rfl) (hy : s.ev n Y = .int .i64 y := by kernel_rfl) : L r P n ops Q (⟨d, .binOp .leq t X Y yt, ty, pos, af, none⟩ :: rest) s w :=
 wZ .i64 x y (x ≤ y) rfl (cmpN_le x y) hx hy ht (fun h => hf (by omega))
theorem nGt (x y : Nat) (ht : y < x → L r P n ops Q rest (s.put d (.bool true)) w) (hf : x ≤ y → L r P n ops Q rest (s.put d (.bool false)) w) (hx : s.ev n X = .int .i64 x := by kernel_rfl) (hy : s.ev n Y = .int .i64 y := by kernel_rfl) : L r P n ops Q (⟨d, .binOp .gtr t X Y yt, ty, pos, af, none⟩ :: rest) s w :=
 wZ .i64 x y (y < x) rfl (cmpN_gt x y) hx hy ht (fun h => hf (by omega))
theorem nGe (x y : Nat) (ht : y ≤ x → L r P n ops Q rest (s.put d (.bool true)) w) (hf : x < y → L r P n ops Q rest (s.put d (.bool false)) w) (hx : s.ev n X = .int .i64 x := by kernel_rfl) (hy : s.ev n Y = .int .i64 y := by kernel_rfl) : L r P n ops Q (⟨d, .binOp .geq t X Y yt, ty, pos, af, none⟩ :: rest) s w :=
 wZ .i64 x y (y ≤ x) rfl (cmpN_ge x y) hx hy ht (fun h => hf (by omega))
theorem zEq (k : IntKind) (x y : Int) (ht : x = y → L r P n ops Q rest (s.put d (.bool true)) w) (hf : x ≠ y → L r P n ops Q rest (s.put d (.bool false)) w) (hx : s.ev n X = .int k x := by kernel_rfl) (hy : s.ev n Y = .int k y := by kernel_rfl) : L r P n ops Q (⟨d, .binOp .eql t X Y yt, ty, pos, af, none⟩ :: rest) s w :=
 wZ k x y (x = y) rfl (cmp_eq x y) hx hy ht hf
theorem zNe (k : IntKind) (x y : Int) (ht : x ≠ y → L r P n ops Q rest (s.put d (.bool true)) w) (hf : x = y → L r P n ops Q rest (s.put d (.bool false)) w) (hx : s.ev n X = .int k x := by kernel_rfl) (hy : s.ev n Y = .int k y := by kernel_rfl) : L r P n ops Q (⟨d, .binOp .neq t X Y yt, ty, pos, af, none⟩ :: rest) s w :=
 wZ k x y (x ≠ y) rfl (cmp_ne x y) hx hy ht (fun h => hf (by omega))
theorem zLt (k : IntKind) (x y : Int) (ht : x < y → L r P n ops Q rest (s.put d (.bool true)) w) (hf : y ≤ x → L r P n ops Q rest (s.put d (.bool false)) w) (hx : s.ev n X = .int k x := by kernel_rfl) (hy : s.ev n Y = .int k y := by kernel_rfl) : L r P n ops Q (⟨d, .binOp .lss t X Y yt, ty, pos, af, none⟩ :: rest) s w :=
 wZ k x y (x < y) rfl (cmp_lt x y) hx hy ht (fun h => hf (by omega))
theorem zLe (k : IntKind) (x y : Int) (ht : x ≤ y → L r P n ops Q rest (s.put d (.bool true)) w) (hf : y < x → L r P n ops Q rest (s.put d (.bool false)) w) (hx : s.ev n X = .int k x := by kernel_rfl) (hy : s.ev n Y = .int k y := by kernel_rfl) : L r P n ops Q (⟨d, .binOp .leq t X Y yt, ty, pos, af, none⟩ :: rest) s w :=
 wZ k x y (x ≤ y) rfl (cmp_le x y) hx hy ht (fun h => hf (by omega))
theorem zGt (k : IntKind) (x y : Int) (ht : y < x → L r P n ops Q rest (s.put d (.bool true)) w) (hf : x ≤ y → L r P n ops Q rest (s.put d (.bool false)) w) (hx : s.ev n X = .int k x := by kernel_rfl) (hy : s.ev n Y = .int k y := by kernel_rfl) : L r P n ops Q (⟨d, .binOp .gtr t X Y yt, ty, pos, af, none⟩ :: rest) s w :=
 wZ k x y (y < x) rfl (cmp_gt x y) hx hy ht (fun h => hf (by omega))
theorem zGe (k : IntKind) (x y : Int) (ht : y ≤ x → L r P n ops Q rest (s.put d (.bool true)) w) (hf : x < y → L r P n ops Q rest (s.put d (.bool false)) w) (hx : s.ev n X = .int k x := by kernel_rfl) (hy : s.ev n Y = .int k y := by kernel_rfl) : L r P n ops Q (⟨d, .binOp .geq t X Y yt, ty, pos, af, none⟩ :: rest) s w :=
 wZ k x y (y ≤ x) rfl (cmp_ge x y) hx hy ht (fun h => hf (by omega))
theorem zw {op : Op} {g : Nat × Bool} (h : L r P n ops Q (⟨d, op, ty, pos, af, none⟩ :: rest) s w) (hg : Option.elim (yl ops n s g.1) false (fun b => b == g.2) = true := by kernel_rfl) : L r P n ops Q (⟨d, op, ty, pos, af, some g⟩ :: rest) s w := L_want hg h
theorem zs {op : Op} {g : Nat × Bool} (h : L r P n ops Q rest (s.put d undef) w) (hg : Option.elim (yl ops n s g.1) false (fun b => b == g.2) = false := by kernel_rfl) : L r P n ops Q (⟨d, op, ty, pos, af, some g⟩ :: rest) s w := L_skip hg h
theorem wB {c : Operand} (h : L r P n ops Q rest (s.put d (s.ev n X)) w) (hc : s.ev n c = .bool true := by kernel_rfl) : L r P n ops Q (⟨d, .pick c X Y, ty, pos, af, none⟩ :: rest) s w := L_pickT hc h
theorem wM {c : Operand} (h : L r P n ops Q rest (s.put d (s.ev n Y)) w) (hc : s.ev n c = .bool false := by kernel_rfl) : L r P n ops Q (⟨d, .pick c X Y, ty, pos, af, none⟩ :: rest) s w := L_pickF hc h
theorem zT {c : Operand} {x y : Code} (h : W r P n x Q s w) (hc : s.ev n c = .bool true := by kernel_rfl) : W r P n (.cond c x y) Q s w := W_true hc h
theorem zF {c : Operand} {x y : Code} (h : W r P n y Q s w) (hc : s.ev n c = .bool false := by kernel_rfl) : W r P n (.cond c x y) Q s w := W_false hc h
theorem zxo {id j : Nat} (h : Q (.exit j) s w) (hj : Nat.beq j id = false := by kernel_rfl) : blkQ id Q (.exit j) s w := blkQ_exit_other hj h
theorem zr {op : Op} (v : Value) (h : L r P n ops Q rest (s.put d v) w) (hrun : (execOp (s.ev n) ⟨d, op, ty, pos, af, none⟩).run P w = .ok (.value v) w := by kernel_rfl) (hd : notDefer op = true := by kernel_rfl) : L r P n ops Q (⟨d, op, ty, pos, af, none⟩ :: rest) s w := L_run v hrun hd h
theorem znt (b : Bool) (h : L r P n ops Q rest (s.put d (.bool (!b))) w) (hx : s.ev n X = .bool b := by kernel_rfl) : L r P n ops Q (⟨d, .unOp .not t X, ty, pos, af, none⟩ :: rest) s w := L_not b hx h
theorem zad (a b : Nat) (h : L r P n ops Q rest (s.put d (.int .i64 ((a + b : Nat) : Int))) w) (hb : a + b ≤ 9223372036854775807 := by omega) (hx : s.ev n X = .int .i64 a := by kernel_rfl) (hy : s.ev n Y = .int .i64 b := by kernel_rfl) : L r P n ops Q (⟨d, .binOp .add t X Y yt, ty, pos, af, none⟩ :: rest) s w := L_addN a b hb hx hy h
theorem zsb (a b : Nat) (h : L r P n ops Q rest (s.put d (.int .i64 ((a - b : Nat) : Int))) w) (hb : b ≤ a := by omega) (ha : a ≤ 9223372036854775807 := by omega) (hx : s.ev n X = .int .i64 a := by kernel_rfl) (hy : s.ev n Y = .int .i64 b := by kernel_rfl) : L r P n ops Q (⟨d, .binOp .sub t X Y yt, ty, pos, af, none⟩ :: rest) s w := L_subN a b hb ha hx hy h
theorem zsl {ats : Array TypeId} (t : TypeId) (a : List UInt8) (h : L r P n ops Q rest (s.put d (.int .i64 (a.length : Nat))) w) (hat : ats[0]? = some t := by rfl) (hu : P.underlying t = some .string := by kernel_rfl) (hx : s.ev n X = S a := by kernel_rfl) : L r P n ops Q (⟨d, .call ⟨.builtin .len, #[X], ats⟩, ty, pos, af, none⟩ :: rest) s w := L_slen t a hat hu hx h
theorem zln {ats : Array TypeId} {E m : Nat} {v : Value} (hu : P.underlying t = some (.slice E)) (hv : ∃ a c, v = .slice a m c) (h : L r P n ops Q rest (s.put d (.int .i64 (m : Nat))) w) (hat : ats[0]? = some t := by rfl) (hx : s.ev n X = v := by kernel_rfl) : L r P n ops Q (⟨d, .call ⟨.builtin .len, #[X], ats⟩, ty, pos, af, none⟩ :: rest) s w := L_len t E m v hat hu hv hx h
theorem zc {op : Op} {f : FuncId} {args : List Value} {R : Value → World → Prop} (hc : Calls P f args.toArray w (Ret R)) (h : ∀ v w', R v w' → L r P n ops Q rest (s.put d v) w') (hrun : (execOp (s.ev n) ⟨d, op, ty, pos, af, none⟩).run P w = .ok (.enter f args.toArray) w := by kernel_rfl) (hd : notDefer op = true := by kernel_rfl) : L r P n ops Q (⟨d, op, ty, pos, af, none⟩ :: rest) s w := L_call f args hrun hd hc h
theorem zN {op : Op} (l : List Value) (E : TypeId) (h : ∀ b w', New w w' b (.cells l.toArray E (0, 0)) → L r P n ops Q rest (s.put d (.pointer (some ⟨b, 0, none⟩))) w') (hrun : (execOp (s.ev n) ⟨d, op, ty, pos, af, none⟩).run P w = .ok (.value (.pointer (some ⟨w.heap.size, 0, none⟩))) (w.alloc (.cells l.toArray E (0, 0))) := by kernel_rfl) (hd : notDefer op = true := by kernel_rfl) : L r P n ops Q (⟨d, op, ty, pos, af, none⟩ :: rest) s w :=
 L_new (fun b => .pointer (some ⟨b, 0, none⟩)) _ hrun hd h
theorem zM {op : Op} (m : Nat) (l : List Value) (E : TypeId) (h : ∀ b w', New w w' b (.cells l.toArray E (0, 0)) → L r P n ops Q rest (s.put d (.slice (some ⟨b, 0, none⟩) m m)) w') (hrun : (execOp (s.ev n) ⟨d, op, ty, pos, af, none⟩).run P w = .ok (.value (.slice (some ⟨w.heap.size, 0, none⟩) m m)) (w.alloc (.cells l.toArray E (0, 0))) := by kernel_rfl) (hd : notDefer op = true := by kernel_rfl) : L r P n ops Q (⟨d, op, ty, pos, af, none⟩ :: rest) s w :=
 L_new (fun b => .slice (some ⟨b, 0, none⟩) m m) _ hrun hd h
theorem zO {b : Nat} {cs : List Value} {E : TypeId} {fz : Nat × Nat} {v : Value} (o : Nat) (hb : w.heap[b]? = some (.cells cs.toArray E fz)) (hv : cs[o]? = some v) (h : L r P n ops Q rest (s.put d v) w) (hx : s.ev n X = .pointer (some ⟨b, o, none⟩) := by kernel_rfl) (ha : (isAgg t).run P w = .ok false w := by kernel_rfl) : L r P n ops Q (⟨d, .load t X, ty, pos, af, none⟩ :: rest) s w :=
 L_load b o v hx ha (yO hb (by simpa using hv)) h
theorem zOW {b : Nat} {cs : List Value} {E : TypeId} {fz : Nat × Nat} (hb : w.heap[b]? = some (.cells cs.toArray E fz)) (h : L r P n ops Q rest (s.put d (.agg cs.toArray)) w) (hx : s.ev n X = .pointer (some ⟨b, 0, none⟩) := by kernel_rfl) (ha : (isAgg t).run P w = .ok true w := by kernel_rfl) (hz : (sizeOf t).run P w = .ok cs.length w := by kernel_rfl) : L r P n ops Q (⟨d, .load t X, ty, pos, af, none⟩ :: rest) s w :=
 L_loadA b 0 cs hx ha hz (yV hb) h
theorem zFO {b : Nat} {cs : List Value} {E : TypeId} {fz : Nat × Nat} {v : Value} {op : Op} {d1 : Tmp} {d2 : Option Tmp} {ty2 : TypeId} {pos2 : String} {af2 : Array Edge} (o : Nat) (hb : w.heap[b]? = some (.cells cs.toArray E fz)) (hv : cs[o]? = some v)
  (h : L r P n ops Q rest ((s.put (some d1) (.pointer (some ⟨b, o, none⟩))).put d2 v) w)
  (hrun : (execOp (s.ev n) ⟨some d1, op, ty, pos, af, none⟩).run P w = .ok (.value (.pointer (some ⟨b, o, none⟩))) w := by kernel_rfl) (hd : notDefer op = true := by kernel_rfl)
  (hlt : Nat.blt d1 n = true := by kernel_rfl) (ha : (isAgg t).run P w = .ok false w := by kernel_rfl) : L r P n ops Q (⟨some d1, op, ty, pos, af, none⟩ :: ⟨d2, .load t (.tmp d1), ty2, pos2, af2, none⟩ :: rest) s w :=
 L_run _ hrun hd (L_load b o v (by simp [Fm.ev, Fm.put, hlt]) ha (yO hb (by simpa using hv)) h)
theorem z1 {b : Nat} {cs : List Value} {E : TypeId} (o : Nat) (v : Value) (cs' : List Value) (hb : w.heap[b]? = some (.cells cs.toArray E (0, 0)))
  (h : ∀ w', Wrote w w' b (.cells cs'.toArray E (0, 0)) → L r P n ops Q rest (s.put d undef) w') (h1 : v.oneCell' = true := by rfl) (hx : s.ev n X = .pointer (some ⟨b, o, none⟩) := by kernel_rfl) (hy : s.ev n Y = v := by kernel_rfl) (hz : (sizeOf t).run P w = .ok 1 w := by kernel_rfl) (ho : Nat.blt o cs.length = true := by rfl) (hcs : cs.set o v = cs' := by rfl) : L r P n ops Q (⟨d, .store t X Y, ty, pos, af, none⟩ :: rest) s w :=
 wF b o v cs cs' E hx hy h1 hz hb (by rw [blt_iff] at ho; simpa using ho) hcs h
theorem zAW {b : Nat} {cs : List Value} {E : TypeId} (vs : List Value) (hb : w.heap[b]? = some (.cells cs.toArray E (0, 0)))
  (h : ∀ w', Wrote w w' b (.cells vs.toArray E (0, 0)) → L r P n ops Q rest (s.put d undef) w') (h1 : vs.all (·.oneCell') = true := by rfl) (hx : s.ev n X = .pointer (some ⟨b, 0, none⟩) := by kernel_rfl) (hy : s.ev n Y = .agg vs.toArray := by kernel_rfl) (hz : (sizeOf t).run P w = .ok vs.length w := by kernel_rfl) (ho : Nat.beq vs.length cs.length = true := by kernel_rfl) : L r P n ops Q (⟨d, .store t X Y, ty, pos, af, none⟩ :: rest) s w :=
 wL b 0 vs cs vs E hx hy h1 hz hb (by have := Nat.eq_of_beq_eq_true ho; simp [this]) (by have := Nat.eq_of_beq_eq_true ho; simp [this]) h
theorem zE1 {α : Type} {enc : α → List Value} {v : Value} {xs : List α} {x : α} {u : Value} {I : Operand} {T E by_ : Nat} {d1 : Tmp} {d3 : Option Tmp} {ty3 : TypeId} {pos3 : String} {af3 : Array Edge}
  (hr : Rd w enc v xs) (he : Elem P T E 1 by_) (i : Nat) (hi : xs[i]? = some x) (hu : (enc x)[0]? = some u)
  (h : ∀ p : Value, L r P n ops Q rest ((s.put (some d1) p).put d3 u) w)
  (hk : ∀ x, (enc x).length = 1 := by exact fun _ => rfl) (hx : s.ev n X = v := by kernel_rfl) (hii : s.ev n I = .int .i64 i := by kernel_rfl)
  (hlt : Nat.blt d1 n = true := by kernel_rfl) (ha : (isAgg t).run P w = .ok false w := by kernel_rfl) :
  L r P n ops Q (⟨some d1, .indexAddr T X I, ty, pos, af, none⟩ :: ⟨d3, .load t (.tmp d1), ty3, pos3, af3, none⟩ :: rest) s w := by
 obtain ⟨g, off, hl, hc⟩ := hr.at hk hi
 refine L_ixaddr (k := .i64) v i _ g off he hl (List.getElem?_eq_some_iff.1 hi).1 hx hii ?_
 exact L_load g (off + i * 1) u (by simp [Fm.ev, Fm.put, hlt]) ha (hc 0 u hu) (h _)
theorem zEA {α : Type} {enc : α → List Value} {v : Value} {xs : List α} {x : α} {I : Operand} {T E ke by_ : Nat} {d1 : Tmp} {d3 : Option Tmp} {ty3 : TypeId} {pos3 : String} {af3 : Array Edge}
  (hr : Rd w enc v xs) (he : Elem P T E ke by_) (i : Nat) (hi : xs[i]? = some x) (us : List Value) (hu : enc x = us)
  (h : ∀ p : Value, L r P n ops Q rest ((s.put (some d1) p).put d3 (.agg us.toArray)) w)
  (hk : ∀ x, (enc x).length = ke := by exact fun _ => rfl) (hx : s.ev n X = v := by kernel_rfl) (hii : s.ev n I = .int .i64 i := by kernel_rfl)
  (hlt : Nat.blt d1 n = true := by kernel_rfl) (ha : (isAgg t).run P w = .ok true w := by kernel_rfl) (hz : (sizeOf t).run P w = .ok us.length w := by kernel_rfl) :
  L r P n ops Q (⟨some d1, .indexAddr T X I, ty, pos, af, none⟩ :: ⟨d3, .load t (.tmp d1), ty3, pos3, af3, none⟩ :: rest) s w := by
 subst hu
 obtain ⟨g, off, hl, hc⟩ := hr.at hk hi
 refine L_ixaddr (k := .i64) v i _ g off he hl (List.getElem?_eq_some_iff.1 hi).1 hx hii ?_
 exact L_loadA g (off + i * ke) (enc x) (by simp [Fm.ev, Fm.put, hlt]) ha hz hc (h _)
end ops
def rvs (n : Nat) (s : Fm) (fn : Func) : List Value := fn.results.toList.map fun | .tmp t => s.ev n (.tmp t) | _ => undef
def rOk (fn : Func) : Bool := fn.results.toList.all fun | .tmp _ => true | _ => false
section
variable {P : Program} {n : Nat} {s : Fm} {w : World}
theorem res_vs : ∀ (l : List ResultVar), (l.all fun | .tmp _ => true | _ => false) = true → resOk P n s w l (l.map fun | .tmp t => s.ev n (.tmp t) | _ => undef)
 | [], _ => trivial
 | .tmp t :: l, h => ⟨rfl, res_vs l (by simpa using h)⟩
 | .cell _ _ :: l, h => by simp at h
theorem yF {fn : Func} {R : Value → World → Prop} (vs : List Value) (h : R (match vs with | [v] => v | _ => .tuple vs.toArray) w) (hv : rvs n s fn = vs := by kernel_rfl) (hr : rOk fn = true := by kernel_rfl) (hd : s.ds = [] := by rfl) : endQ P fn n R .ret s w := by
 subst hv
 have hh : resOk P n s w fn.results.toList (rvs n s fn) := res_vs _ hr
 refine xF fn.results.toList (rvs n s fn) (by simp) hd hh ?_
 clear hr
 generalize rvs n s fn = vs at h hh ⊢
 cases vs with
 | nil => exact h
 | cons v l => cases l <;> exact h
theorem znrm {fn : Func} {R : Value → World → Prop} (vs : List Value) (h : R (match vs with | [v] => v | _ => .tuple vs.toArray) w) (hv : rvs n s fn = vs := by kernel_rfl) (hr : rOk fn = true := by kernel_rfl) (hd : s.ds = [] := by rfl) : endQ P fn n R .normal s w := by
 subst hv
 have hh : resOk P n s w fn.results.toList (rvs n s fn) := res_vs _ hr
 refine end_normal fn.results.toList (rvs n s fn) (by simp) hd hh ?_
 clear hr
 generalize rvs n s fn = vs at h hh ⊢
 cases vs with
 | nil => exact h
 | cons v l => cases l <;> exact h
end
def putS (s : Fm) : List Nat → List Value → Fm
  | d :: ds, v :: vs => putS (s.put (some d) v) ds vs
  | _, _ => s
theorem W_setL {r : Option Nat} {P : Program} {n : Nat} {c : Code} {Q : Post} {w : World} : ∀ (ts : List Nat) (vs : List Value) (s : Fm), ts.map s.f = vs → W r P n c Q (putS s ts vs) w → W r P n c Q s w
 | [], [], _, _, h => h
 | t :: ts, v :: vs, s, he, h => by
  simp only [List.map_cons, List.cons.injEq] at he
  refine W_set t v he.1 ?_
  refine W_setL ts vs _ ?_ h
  obtain ⟨a, b⟩ := he
  rw [← b]
  refine List.map_congr_left fun i _ => ?_
  show (bif Nat.beq i t then v else s.f i) = s.f i
  cases hq : Nat.beq i t with
  | false => rfl
  | true => rw [Nat.eq_of_beq_eq_true hq]; exact a.symm
 | [], _ :: _, _, he, _ => by simp at he
 | _ :: _, [], _, he, _ => by simp at he
theorem yU {r : Option Nat} {P : Program} {n : Nat} {c : Code} {Q : Post} {s : Fm} {w : World} {ts : List Nat} {vs : List Value} (h : ts.map s.f = vs) (k : W r P n c Q (putS s ts vs) w) : W r P n c Q s w := W_setL ts vs s h k
end Go.FK
end

/- === FKar === -/
section
/- FKar: more short laws for the walks' texts. My own text. -/
namespace Go.FK
open Go Go.RowKit
theorem zh {p : Prop} (h : p := by simp only [arithZ]; omega) : p := h
theorem zi {p : Prop} (h : p := by simp) : p := h
theorem zj {α : Sort _} {p : α → Prop} (h : ∀ x, p x := by exact fun _ => rfl) : ∀ x, p x := h
theorem zf {α : Sort _} {p : α → Prop} (h : ∀ x, p x := by intro _; kernel_rfl) : ∀ x, p x := h
theorem zg {α : Sort _} {β : α → Sort _} {p : (x : α) → β x → Prop} (h : ∀ x y, p x y := by intro _ _; kernel_rfl) : ∀ x y, p x y := h
theorem e6 {a b : Int} (h : a = b) : Value.int .i64 a = Value.int .i64 b := by rw [h]
theorem e3 {a b : Int} (h : a = b) : Value.int .i32 a = Value.int .i32 b := by rw [h]
theorem eu {a b : Int} (h : a = b) : Value.int .u8 a = Value.int .u8 b := by rw [h]
theorem e8 {a b : Int} (h : a = b) : Value.int .i8 a = Value.int .i8 b := by rw [h]
theorem eb {a b : Bool} (h : a = b) : Value.bool a = Value.bool b := by rw [h]
section
variable {r : Option Nat} {P : Program} {n : Nat} {Q Q2 : Post} {s : Fm} {w : World} {ops : Array Oper}
theorem wG (k : Nat) {f : FuncId} {fn : Func} {c : Code} {args : List Value} {R : Value → World → Prop} (hf : P.funcs[f]? = some fn) (hb : fn.body = some c) (h : W none P k c (endQ P fn k R) ⟨fun i => args.getD i undef, []⟩ w) (hn : fn.ntmps = k := by kernel_rfl) (hk : Nat.ble args.length k = true := by kernel_rfl) : Calls P f args.toArray w (Ret R) :=
 enter hf hb hn hk h
theorem nQ {K : Fm → World → Prop} (h : K s w) : L r P n ops (thenQ K Q) [] s w := zS (zD h)
theorem nW {x y : Code} (h : W r P n x (thenQ (W r P n y Q) Q) s w) : L r P n ops (thenQ (W r P n (.seq x y) Q) Q2) [] s w := zS (zD (yA h))
theorem wR {id : Nat} {l : List Oper} {y : Code} (h : L r P n l.toArray (thenQ (W r P n y Q) Q) l s w) : W r P n (.seq (.region id l.toArray false) y) Q s w := yA (zV h)
theorem nR {id : Nat} {l : List Oper} {y : Code} (h : L r P n l.toArray (thenQ (W r P n y Q) Q) l s w) : L r P n ops (thenQ (W r P n (.seq (.region id l.toArray false) y) Q) Q2) [] s w := zS (zD (yA (zV h)))
end
section
variable {P : Program} {n : Nat} {Q : Post} {s : Fm} {w : World} {ops : Array Oper} {S : World → Prop} {fuel : Nat} {listed : Array Bool}
theorem ht (i : Nat) {o : Oper} (hi : ops[i]? = some o) (v : Value) (hS : S w) (hrun : RunOk P n o s S v) (h : Lh P n ops Q S fuel (listed.setIfInBounds i true) (s.put o.dst v) w)
  (hs : Region.noSelect ops = true := by kernel_rfl) (hf : Region.free .any ops listed i = true := by kernel_rfl) (hr : (Region.ready .any ops listed).contains i = true := by kernel_rfl) (hw : wantB ops n s o.guard = true := by kernel_rfl)
  (hq : NoPanic Q := by with_reducible repeat first | exact zE | exact xB | exact wD | apply zA | apply zB | apply noPanic_jmp) : Lh P n ops Q S (fuel + 1) listed s w :=
 H_take i v hi hs hf hr hq hS hw hrun h
theorem hp (i : Nat) {o : Oper} (hi : ops[i]? = some o) (v : Value) (hS : S w) (h : Lh P n ops Q S fuel (listed.setIfInBounds i true) (s.put o.dst v) w)
  (hs : Region.noSelect ops = true := by kernel_rfl) (hf : Region.free .any ops listed i = true := by kernel_rfl) (hr : (Region.ready .any ops listed).contains i = true := by kernel_rfl) (hw : wantB ops n s o.guard = true := by kernel_rfl)
  (hq : NoPanic Q := by with_reducible repeat first | exact zE | exact xB | exact wD | apply zA | apply zB | apply noPanic_jmp) (hrun : RunOk P n o s S v := by intro _ _; kernel_rfl) : Lh P n ops Q S (fuel + 1) listed s w :=
 H_take i v hi hs hf hr hq hS hw hrun h
theorem ip (i : Nat) {o : Oper} (hi : ops[i]? = some o) (v : Value) (h : Li P n ops Q fuel (listed.setIfInBounds i true) (s.put o.dst v) w)
  (hs : Region.noSelect ops = true := by kernel_rfl) (hf : Region.free .any ops listed i = true := by kernel_rfl) (hr : (Region.ready .any ops listed).contains i = true := by kernel_rfl) (hc : noCall o.op = true := by kernel_rfl) (hw : wantB ops n s o.guard = true := by kernel_rfl)
  (hq : NoPanic Q := by with_reducible repeat first | exact zE | exact xB | exact wD | apply zA | apply zB | apply noPanic_jmp) (hrun : ∀ w', (execOp (s.ev n) o).run P w' = .ok (.value v) w' := by intro _; kernel_rfl) : Li P n ops Q (fuel + 1) listed s w :=
 I_take i v hi hs hf hr hc hq hw hrun h
end
section
variable {P : Program} {n : Nat} {s : Fm} {w : World} {ops : Array Oper} {rest : List Oper} {K : Fm → Prop} {d : Option Tmp} {ty : TypeId} {pos : String} {af : Array Edge} {c X Y : Operand}
theorem qw {op : Op} {g : Nat × Bool} (h : Lq P n ops w K (⟨d, op, ty, pos, af, none⟩ :: rest) s) (hg : Option.elim (yl ops n s g.1) false (fun b => b == g.2) = true := by kernel_rfl) : Lq P n ops w K (⟨d, op, ty, pos, af, some g⟩ :: rest) s := Lq_want hg h
theorem qs {op : Op} {g : Nat × Bool} (h : Lq P n ops w K rest (s.put d undef)) (hg : Option.elim (yl ops n s g.1) false (fun b => b == g.2) = false := by kernel_rfl) : Lq P n ops w K (⟨d, op, ty, pos, af, some g⟩ :: rest) s := Lq_skip hg h
theorem qT (h : Lq P n ops w K rest (s.put d (s.ev n X))) (hc : s.ev n c = .bool true := by kernel_rfl) : Lq P n ops w K (⟨d, .pick c X Y, ty, pos, af, none⟩ :: rest) s := Lq_pickT hc h
theorem qF (h : Lq P n ops w K rest (s.put d (s.ev n Y))) (hc : s.ev n c = .bool false := by kernel_rfl) : Lq P n ops w K (⟨d, .pick c X Y, ty, pos, af, none⟩ :: rest) s := Lq_pickF hc h
theorem qr {op : Op} (v : Value) (h : Lq P n ops w K rest (s.put d v)) (hrun : ∀ w', (execOp (s.ev n) ⟨d, op, ty, pos, af, none⟩).run P w' = .ok (.value v) w' := by intro _; kernel_rfl) : Lq P n ops w K (⟨d, op, ty, pos, af, none⟩ :: rest) s := Lq_run v hrun h
end
end Go.FK
end

/- === Wllines === -/
section
/- Walks, written by my program walk.py out of the specification llines.py: each theorem says what one function returns and that it leaves memory as it was. -/
namespace Go.Proofs.YtddnhlobnembaaaGreatDoor
open Go Go.RowKit Go.FK _root_.Go.Proofs.Tryz
set_option maxHeartbeats 4000000
set_option maxRecDepth 100000
theorem el88 : Elem Tryz.prog 88 9 1 16 := ⟨underlying88, zk, rfl⟩
theorem el126 : Elem Tryz.prog 126 129 3 24 := ⟨underlying126, zk, rfl⟩
theorem xT (s : List UInt8) (c : Int) (w : World) :
  Calls Tryz.prog 99 #[(S s), (U8 c)] w (Ret fun v w' => v = (I6 (ibF s c)) ∧ Below w.heap.size w w') :=
 indexByte_contract Tryz.strings_IndexByte s c w
theorem xK (s : List UInt8) (p : List UInt8) (w : World) :
  Calls Tryz.prog 72 #[(S s), (S p)] w (Ret fun v w' => v = (.bool (hpB s p)) ∧ Below w.heap.size w w') :=
 hasPrefix_contract Tryz.strings_HasPrefix s p w
theorem c_stringslite_Index (s : List UInt8) (sep : List UInt8) (w : World) (h1 : sep.length = 1) :
  Calls Tryz.prog 116 #[(S s), (S sep)] w (Ret fun v w' => v = (I6 (Lib.index s sep)) ∧ Below w.heap.size w w') :=
 index1_contract Tryz.stringslite_Index_one s sep w h1
theorem c_stringslite_Cut (s : List UInt8) (sep : List UInt8) (w : World) (h1 : sep.length = 1) (hs : s.length ≤ 1073741824) :
  Calls Tryz.prog 101 #[(S s), (S sep)] w (Ret fun v w' => v = (.tuple #[(S ((Lib.cut s sep).1)), (S ((Lib.cut s sep).2.1)), (.bool ((Lib.cut s sep).2.2))]) ∧ Below w.heap.size w w') := by
 refine wG 23 func101 rfl ?_
 have a := Below.refl w.heap.size w
 refine wR (zI (zI (zI (nW (wR (zH (zH (zc (c_stringslite_Index s sep _ zo) ?_))))))))
 rintro _ g ⟨rfl, b⟩
 have := ixl_range s sep
 refine zI (nR (zH (zGe .i64 (Lib.index s sep) 0 ?_ ?_)))
 ·intro e
  refine nQ (zT (yA (xJ zk zk (yE (yE (Lq_ssto s (((Lib.index s sep)).toNat) underlying9 zk (toNat_val (Lib.index s sep) .i64 zk zo) zo (yE (yE (yE (Lq_slen 9 sep rfl underlying9 zk (Lq_arith (Lib.index s sep) (((sep).length : Nat) : Int) ((Lib.index s sep) + (((sep).length : Nat) : Int)) rfl zk zk (xC _ zh zh) (Lq_ssfrom s ((((Lib.index s sep) + (((sep).length : Nat) : Int))).toNat) underlying9 zk (toNat_val ((Lib.index s sep) + (((sep).length : Nat) : Int)) .i64 zk zo) zo (Lq_as (Lq_as (Lq_as (yS ?_))))))))))))))))
  intro d c
  have a := (a.tr b).tr c
  exact zD (zW (zK (yF [(S (List.take (((Lib.index s sep)).toNat) s)), (S (List.drop ((((Lib.index s sep) + (((sep).length : Nat) : Int))).toNat) s)), (.bool true)] ⟨tup3 (congrArg S (by (rw [cut_some zo]; done))) (congrArg S (by (rw [cut_some zo]; done))) (eb (by (rw [cut_some zo]; done))), a⟩)))
 intro f
 have a := a.tr b
 exact nQ (zF (zP (zD (wR (zH (zI (zI (zI (nQ (zW (yF [(S s), (S []), (.bool false)] ⟨tup3 (congrArg S (by (rw [cut_none zo]; done))) (congrArg S (by (rw [cut_none zo]; done))) (eb (by (rw [cut_none zo]; done))), a⟩)))))))))))
theorem c_strings_Cut (s : List UInt8) (sep : List UInt8) (w : World) (h1 : sep.length = 1) (hs : s.length ≤ 1073741824) :
  Calls Tryz.prog 70 #[(S s), (S sep)] w (Ret fun v w' => v = (.tuple #[(S ((Lib.cut s sep).1)), (S ((Lib.cut s sep).2.1)), (.bool ((Lib.cut s sep).2.2))]) ∧ Below w.heap.size w w') := by
 refine wG 13 func70 rfl ?_
 have b := Below.refl w.heap.size w
 refine wR (zI (zI (zI (nR (zH (zH (zc (c_stringslite_Cut s sep _ zo zo) ?_)))))))
 rintro _ c ⟨rfl, a⟩
 have := wC s sep
 have b := b.tr a
 exact zr (S ((Lib.cut s sep).1)) (zr (S ((Lib.cut s sep).2.1)) (zr (.bool ((Lib.cut s sep).2.2)) (zI (zI (zI (nQ (zW (yF [(S ((Lib.cut s sep).1)), (S ((Lib.cut s sep).2.1)), (.bool ((Lib.cut s sep).2.2))] ⟨rfl, b⟩))))))))
theorem c_strings_Trim (s : List UInt8) (c : List UInt8) (w : World) (ha : c.all (fun b => decide (b.toNat < 128)) = true) (hs : s.length ≤ 1073741824) (hc : c.length ≤ 1073741824) :
  Calls Tryz.prog 102 #[(S s), (S c)] w (Ret fun v w' => v = (S (Lib.trimS s c)) ∧ Below w.heap.size w w') :=
 trim_contract (fun s c w hs hcs ha => Go.Proofs.Any.strings_Trim_laid Tryz.lays160 zk s c w hs hcs ha) s c w ha hs hc
theorem wN (s : List UInt8) (w : World) (hs : s.length ≤ 1073741824) :
  Calls Tryz.prog 71 #[(S s)] w (Ret fun v w' => v = (S (trmF s)) ∧ Below w.heap.size w w') := by
 refine wG 5 func71 rfl ?_
 have b := Below.refl w.heap.size w
 refine wR (zI (nR (zH (zc (c_strings_Trim s ([32, 9] : List UInt8) _ (by decide) (by first | omega | decide) (by first | omega | decide)) ?_))))
 rintro _ c ⟨rfl, a⟩
 have b := b.tr a
 exact zI (nQ (zW (yF [(S (Lib.trimS s ([32, 9] : List UInt8)))] ⟨congrArg S (by rfl), b⟩)))
theorem c_lines_wrong (s : List UInt8) (p : Nat) (r : Int) (w : World) (hp : p ≤ s.length) :
  Calls Tryz.prog 100 #[(S s), (N6 p), (I3 r)] w (Ret fun v w' => v = (.bool (wrongB s p r)) ∧ Below w.heap.size w w') := by
 refine wG 18 func100 rfl ?_
 have a := Below.refl w.heap.size w
 refine wR (zI (nR (zH (zEq .i32 r 65533 ?_ ?_))))
 ·intro g
  refine zH (zw (zH (zw (zH (zw (L_ssfrom s p underlying9 zk ⟨.i64, zk⟩ zo (zw (zH (zw (L_runeStr r zk underlying21 underlying9 (zw (zc (xK (List.drop p s) (encL [r]) _ ) ?_))))))))))))
  rintro _ c ⟨rfl, b⟩
  refine yK (hpB (List.drop p s) (encL [r])) ?_ ?_
  ·intro e
   replace a := a.tr b
   exact zw (znt true (wB (zI (nQ (zW (yF [(.bool false)] ⟨eb (by (unfold wrongB; simp_all; done)), a⟩))))))
  intro d
  replace a := a.tr b
  exact zw (znt false (wB (zI (nQ (zW (yF [(.bool true)] ⟨eb (by (unfold wrongB; simp_all; done)), a⟩))))))
 intro f
 exact zH (zs (zs (zs (zs (zs (zs (zs (wM (zI (nQ (zW (yF [(.bool false)] ⟨eb (by (simp [wrongB, *]; done)), a⟩))))))))))))
theorem c_lines_Check (s : List UInt8) (w : World) (hs : s.length ≤ 1073741824) :
  Calls Tryz.prog 68 #[(S s)] w (Ret fun v w' => v = (.tuple #[(N6 ((chkF s).1)), (I6 ((chkF s).2))]) ∧ Below w.heap.size w w') := by
 refine wG 35 func68 rfl ?_
 have g := Below.refl w.heap.size w
 refine wR (zI (zI (nR (zI (nW (wR (zH (L_range s underlying9 zk ?_))))))))
 intro r w2 o
 have e := o.ge g.size
 have c := o.here
 refine nQ (zY ?_)
 have g := g.tr o.below
 refine xD (fun m s0 w0 => ∃ (pos : Nat) (n : Nat), (m = s.length - pos) ∧ (s0.ds = []) ∧ ([0, 8, 4].map s0.f = [(S s), (pt r 0), (N6 n)]) ∧ (w0.heap[r]? = some (.stringIter ⟨(s).toArray⟩ pos)) ∧ (Below w.heap.size w w0) ∧ (pos ≤ s.length) ∧ (n ≤ pos) ∧ (n ≤ 4096) ∧ (chkL (charsFrom s pos) n = chkF s)) _ ⟨0, 0, rfl, zk, zk, c, g, by omega, by omega, by omega, rfl⟩ ?_
 rintro m4 s5 w6 ⟨pos, n, hm, j, t, c, g, i1, i2, i4, k⟩
 refine yU t (wR ?_)
 rcases Nat.lt_or_ge pos (s).length with a | l
 ·refine L_next s r pos zk c a ?_
  intro d w7 b i
  have c := i.here
  have := dec_pos s pos; have := dec_fits s pos a; have := dec_le s pos
  have p : 0 ≤ d := by omega
  have q : d ≤ 2147483647 := by omega
  refine zr (.bool true) (nW (zT (zP (zD (zY (wR (zr (N6 pos) (zr (I3 d) (zI (zI (nW (zY (wR (zH (nEq n 4096 ?_ ?_)))))))))))))))
  ·intro h9
   have g := g.trans (i.below e)
   exact zI (nQ (zT (wR (zH (zI (zI (nQ (zW (zR (zK (zR (zK (zR (zK (yF [(N6 n), (I6 32)] (hd := j) ⟨xO (congrArg (fun x : Nat => Value.int .i64 (x : Int)) (by (rw [← k, (by assumption : n = 4096), chk_wide a]; done))) (e6 (by (rw [← k, (by assumption : n = 4096), chk_wide a]; done))), g⟩)))))))))))))))
  intro af
  refine zI (nQ (zF (wR (zH (zH (zH (zc (c_lines_wrong s pos d _ zo) ?_)))))))
  rintro _ ac ⟨rfl, h⟩
  refine yK (wrongB s pos d) ?_ ?_
  ·intro ad
   have g := (g.trans (i.below e)).tr h
   exact zI (nQ (zT (wR (zH (zI (zI (nQ (zW (zR (zK (zR (zK (zR (zK (yF [(N6 n), (I6 30)] (hd := j) ⟨xO (congrArg (fun x : Nat => Value.int .i64 (x : Int)) (by (rw [← k, chk_wrong (n := n) a zo (by rw [← b]; assumption)]; done))) (e6 (by (rw [← k, chk_wrong (n := n) a zo (by rw [← b]; assumption)]; done))), g⟩)))))))))))))))
  intro z
  refine zI (nQ (zF (yA (wR (zH (zLt .i32 d 32 ?_ ?_))))))
  ·intro ab
   refine zH (zw (zH (zw (zNe .i32 d 9 ?_ ?_))))
   ·intro ai
    have g := (g.trans (i.below e)).tr h
    exact wB (zI (nQ (zT (zP (zD (zT (wR (zH (zI (zI (nQ (zW (zR (zK (zR (zK (zR (zK (yF [(N6 n), (I6 31)] (hd := j) ⟨xO (congrArg (fun x : Nat => Value.int .i64 (x : Int)) (by (rw [← k, chk_ctl (n := n) a zo (by rw [← b]; assumption) zo]; done))) (e6 (by (rw [← k, chk_ctl (n := n) a zo (by rw [← b]; assumption) zo]; done))), g⟩)))))))))))))))))))
   intro u
   refine wB (zI (nQ (zF (zV (zH (zEq .i32 d 127 ?_ ?_))))))
   ·intro aa
    have g := (g.trans (i.below e)).tr h
    exact zI (nQ (zT (wR (zH (zI (zI (nQ (zW (zR (zK (zR (zK (zR (zK (yF [(N6 n), (I6 31)] (hd := j) ⟨xO (congrArg (fun x : Nat => Value.int .i64 (x : Int)) (by (rw [← k, chk_ctl (n := n) a zo (by rw [← b]; assumption) zo]; done))) (e6 (by (rw [← k, chk_ctl (n := n) a zo (by rw [← b]; assumption) zo]; done))), g⟩)))))))))))))))
   intro y
   refine zI (nQ (zF (zP (zJ (zD (zV (zH (zad n 1 (zI (zS (zJ ?_)))))))))))
   have g := (g.trans (i.below e)).tr h
   have c := zC c h
   refine zD ⟨_, zo, (pos + (dec s pos).2), (n + 1), rfl, j, zk, c, g, zo, zo, zo, ?_⟩
   rw [← chk_on (n := n) a zo (by rw [← b]; assumption) zo]; exact k
  intro ag
  refine zH (zs (zs (wM (zI (nQ (zF (zV (zH (zEq .i32 d 127 ?_ ?_)))))))))
  ·intro ae
   have g := (g.trans (i.below e)).tr h
   exact zI (nQ (zT (wR (zH (zI (zI (nQ (zW (zR (zK (zR (zK (zR (zK (yF [(N6 n), (I6 31)] (hd := j) ⟨xO (congrArg (fun x : Nat => Value.int .i64 (x : Int)) (by (rw [← k, chk_ctl (n := n) a zo (by rw [← b]; assumption) zo]; done))) (e6 (by (rw [← k, chk_ctl (n := n) a zo (by rw [← b]; assumption) zo]; done))), g⟩)))))))))))))))
  intro ah
  refine zI (nQ (zF (zP (zJ (zD (zV (zH (zad n 1 (zI (zS (zJ ?_)))))))))))
  have g := (g.trans (i.below e)).tr h
  have c := zC c h
  refine zD ⟨_, zo, (pos + (dec s pos).2), (n + 1), rfl, j, zk, c, g, zo, zo, zo, ?_⟩
  rw [← chk_on (n := n) a zo (by rw [← b]; assumption) zo]; exact k
 exact L_nextEnd s r pos zk c l (zr (.bool false) (nW (zF (yR (zL (zL (yD (zD (wR (zI (zI (nQ (zW (yF [(I6 0), (I6 0)] (hd := j) ⟨xO (congrArg (fun x : Nat => Value.int .i64 (x : Int)) (by (rw [← k, chk_end zo]; done))) (e6 (by (rw [← k, chk_end zo]; done))), g⟩))))))))))))))
theorem c_lines_fields (s : List UInt8) (w : World) (hs : s.length ≤ 1073741824) :
  Calls Tryz.prog 74 #[(S s)] w (Ret fun v w' => ∃ (q0 : Value), v = q0 ∧ Row w' w.heap.size 9 1 encStr q0 (fieldsF s) ∧ Below w.heap.size w w') := by
 refine wG 37 func74 rfl ?_
 have g := Below.refl w.heap.size w
 refine wR (zI (nQ (W_scope (fun l m s0 w0 => (l = 1 ∧ ∃ (b : List (List UInt8)) (h : Nat) (a : Nat) (e : Value), (m = 3 * (s.length - a) + 2) ∧ (s0.ds = []) ∧ ([0, 3, 4, 5].map s0.f = [(S s), e, (N6 h), (N6 a)]) ∧ (Row w0 w.heap.size 9 1 encStr e b) ∧ (Below w.heap.size w w0) ∧ (h ≤ a) ∧ (a ≤ s.length) ∧ (noB 59 s h a) ∧ (b ++ (splF 59 (s.drop h)).map trmF = (splF 59 s).map trmF) ∧ (trmF s ≠ []) ∧ (b.length ≤ a)) ∨ (l = 2 ∧ ∃ (b : List (List UInt8)) (h : Nat) (a : Nat) (e : Value), (m = 3 * (s.length - a) + 1) ∧ (s0.ds = []) ∧ ([0, 3, 4, 5].map s0.f = [(S s), e, (N6 h), (N6 a)]) ∧ (Row w0 w.heap.size 9 1 encStr e b) ∧ (Below w.heap.size w w0) ∧ (h ≤ a) ∧ (a ≤ s.length) ∧ (noB 59 s h a) ∧ (b ++ (splF 59 (s.drop h)).map trmF = (splF 59 s).map trmF) ∧ (trmF s ≠ []) ∧ (b.length ≤ a) ∧ (∃ c : UInt8, s[a]? = some c ∧ c.toNat = 59) ∧ (a < s.length)) ∨ (l = 0 ∧ ∃ (b : List (List UInt8)) (h : Nat) (a : Nat) (e : Value), (m = 0) ∧ (s0.ds = []) ∧ ([0, 3, 4, 5].map s0.f = [(S s), e, (N6 h), (N6 a)]) ∧ (Row w0 w.heap.size 9 1 encStr e b) ∧ (Below w.heap.size w w0) ∧ (h ≤ a) ∧ (a ≤ s.length) ∧ (noB 59 s h a) ∧ (b ++ (splF 59 (s.drop h)).map trmF = (splF 59 s).map trmF) ∧ (trmF s ≠ []) ∧ (b.length ≤ a) ∧ (a = s.length))) ?_ ?_)))
 ·refine wR (zI (nR (zI (zI (nW (wR (zH (zc (wN s _ zo) ?_))))))))
  rintro _ w1 ⟨rfl, p⟩
  have := trm_len s
  refine L_seq (trmF s) ([] : List UInt8) rfl zk zk ?_ ?_
  ·intro h4
   have g := g.tr p
   exact nQ (zT (wR (zI (nQ (zW (zK (jmpQ_ret (yF [(.slice none 0 0)] ⟨(.slice none 0 0), rfl, (Row.nil _ _ _ _ _).cast (by exact (fields_nil za).symm), g⟩))))))))
  intro h5
  refine nQ (zF (zP (zD (yA (W_label (zD (yA (wR (zH (zH (zsl 9 s (nEq 0 ((s).length) ?_ ?_))))))))))))
  ·intro h6
   refine nQ (zT (W_goto (wS (jmpQ_goto ?_))))
   have g := g.tr p
   refine ⟨_, Or.inr (Or.inr (⟨rfl, [], 0, 0, (.slice none 0 0), rfl, rfl, zk, Row.nil _ _ _ _ _, g, zo, zo, ?_, ?_, ?_, ?_, zo⟩))⟩
   ·exact noB_zero _ _ _
   ·rfl
   ·first | assumption | exact o
   (simp only [List.length_append, List.length_cons, List.length_nil]; omega)
  intro h7
  refine nQ (zF (zP (zD (yA (wR (zH (zH ?_)))))))
  have hz := zU s 0 zo; obtain ⟨t, al⟩ := hz
  have := t.toNat_lt
  refine L_sindex (k := .i64) s 0 t underlying9 al zk zk (wZ .u8 ((t.toNat : Nat) : Int) ((59 : Nat) : Int) (t.toNat = 59) rfl (cmpN_eq t.toNat 59) zk zk ?_ ?_)
  ·intro am
   replace am : t.toNat = 59 := by omega
   refine nQ (zT (W_goto (wS (jmpQ_goto ?_))))
   have g := g.tr p
   refine ⟨_, Or.inr (Or.inl (⟨rfl, [], 0, 0, (.slice none 0 0), rfl, rfl, zk, Row.nil _ _ _ _ _, g, zo, zo, ?_, ?_, ?_, ?_, ?_, zo⟩))⟩
   ·exact noB_zero _ _ _
   ·rfl
   ·first | assumption | exact o
   ·(simp only [List.length_append, List.length_cons, List.length_nil]; omega)
   exact ⟨_, by assumption, by assumption⟩
  intro aq
  replace aq : t.toNat ≠ 59 := by omega
  refine nQ (zF (zP (zD (wR (zH (zad 0 1 (zI (nW (W_goto (wS (jmpQ_goto ?_)))))))))))
  have g := g.tr p
  refine ⟨_, Or.inl (⟨rfl, [], 0, 1, (.slice none 0 0), rfl, rfl, zk, Row.nil _ _ _ _ _, g, zo, zo, ?_, ?_, ?_, ?_⟩)⟩
  ·exact noB_succ (noB_zero _ _ _) za za
  ·rfl
  ·first | assumption | exact o
  (simp only [List.length_append, List.length_cons, List.length_nil]; omega)
 rintro l a2 a3 a4 (⟨rfl, b, h, a, e, hm, j, n, d, g, i0, i1, y, i3, o, i5⟩ | ⟨rfl, b, h, a, e, hm, j, n, d, g, i0, i1, y, i3, o, i5, i6, i7⟩ | ⟨rfl, b, h, a, e, hm, j, n, d, g, i0, i1, y, i3, o, i5, i6⟩)
 ·skip
  refine ⟨_, rfl, yU n (yA (zP (zD (yA (wR (zH (zH (zsl 9 s (nEq a ((s).length) ?_ ?_)))))))))⟩
  ·intro az
   refine nQ (zT (W_goto (wS (jmpQ_goto ?_))))
   refine ⟨_, zo, Or.inr (Or.inr (⟨rfl, b, h, a, e, rfl, j, zk, d, g, zo, zo, ?_, ?_, ?_, zo, zo⟩))⟩
   ·assumption
   ·assumption
   first | assumption | exact o
  intro a1
  refine nQ (zF (zP (zD (yA (wR (zH (zH ?_)))))))
  have hz := zU s a zo; obtain ⟨i, ab⟩ := hz
  have := i.toNat_lt
  refine L_sindex (k := .i64) s a i underlying9 ab zk zk (wZ .u8 ((i.toNat : Nat) : Int) ((59 : Nat) : Int) (i.toNat = 59) rfl (cmpN_eq i.toNat 59) zk zk ?_ ?_)
  ·intro ai
   replace ai : i.toNat = 59 := by omega
   refine nQ (zT (W_goto (wS (jmpQ_goto ?_))))
   refine ⟨_, zo, Or.inr (Or.inl (⟨rfl, b, h, a, e, rfl, j, zk, d, g, zo, zo, ?_, ?_, ?_, zo, ?_, zo⟩))⟩
   ·assumption
   ·assumption
   ·first | assumption | exact o
   exact ⟨_, by assumption, by assumption⟩
  intro af
  replace af : i.toNat ≠ 59 := by omega
  refine nQ (zF (zP (zD (wR (zH (zad a 1 (zI (nW (W_goto (wS (jmpQ_goto ?_)))))))))))
  refine ⟨_, zo, Or.inl (⟨rfl, b, h, (a + 1), e, rfl, j, zk, d, g, zo, zo, ?_, ?_, ?_, zo⟩)⟩
  ·exact noB_succ y za za
  ·assumption
  first | assumption | exact o
 ·skip
  refine ⟨_, rfl, yU n ?_⟩
  obtain ⟨c0, ao, ah⟩ := i6
  refine yA (zP (zD (wR (zH (zH (zH (zH (L_sslice s h a underlying9 zk ⟨.i64, zk⟩ ⟨.i64, zk⟩ zo zo (zc (wN (List.drop h (List.take a s)) _ (by (simp only [List.length_drop, List.length_take]; omega))) ?_)))))))))
  rintro _ ay ⟨rfl, r⟩
  have := trm_len (List.drop h (List.take a s))
  have g := g.tr r
  have d := d.below r
  refine wO el88 w.heap.size e b (trmF (List.drop h (List.take a s))) g.size d zo zk rfl rfl zk rfl zk zk ?_
  intro ag a5 ad u an
  have g := g.tg g.size u d
  have d := ad
  refine zI (nR (zH (zad a 1 (zI (nR (zH (zI (nW (W_goto (wS (jmpQ_goto ?_)))))))))))
  refine ⟨_, zo, Or.inl (⟨rfl, (b ++ [(trmF (List.drop h (List.take a s)))]), (a + 1), (a + 1), ag, rfl, j, zk, d, g, zo, zo, ?_, ?_, ?_, ?_⟩)⟩
  ·exact noB_zero _ _ _
  ·exact fld_hit y i0 ao ah i3
  ·first | assumption | exact o
  (simp only [List.length_append, List.length_cons, List.length_nil]; omega)
 skip
 refine ⟨_, rfl, yU n (yA (zP (zD (wR (zH (zH (zH (L_ssfrom s h underlying9 zk ⟨.i64, zk⟩ zo (zc (wN (List.drop h s) _ (by (simp only [List.length_drop, List.length_take]; omega))) ?_)))))))))⟩
 rintro _ ax ⟨rfl, q⟩
 have := trm_len (List.drop h s)
 have g := g.tr q
 have d := d.below q
 refine wO el88 w.heap.size e b (trmF (List.drop h s)) g.size d zo zk rfl rfl zk rfl zk zk ?_
 intro ac a0 z aa ap
 have g := g.tg g.size aa d
 have d := z
 exact zI (nQ (zW (jmpQ_ret (yF [ac] (hd := j) ⟨ac, rfl, d.cast (by exact fld_end y zo i3 o), g⟩))))
theorem c_lines_Cut (s : List UInt8) (w : World) (hs : s.length ≤ 1073741824) :
  Calls Tryz.prog 69 #[(S s)] w (Ret fun v w' => ∃ (q0 : Value), v = (.tuple #[q0, (S ((cutF s).2))]) ∧ Row w' w.heap.size 9 1 encStr q0 ((cutF s).1) ∧ Below w.heap.size w w') := by
 refine wG 17 func69 rfl ?_
 have b := Below.refl w.heap.size w
 refine wR (zI (zI (nR (zH (zc (c_strings_Cut s ([35] : List UInt8) _ (by first | omega | decide | rfl) (by first | omega | decide | rfl)) ?_)))))
 rintro _ i ⟨rfl, d⟩
 have := wC s ([35] : List UInt8)
 refine zH (zr (S ((Lib.cut s ([35] : List UInt8)).1)) (zr (S ((Lib.cut s ([35] : List UInt8)).2.1)) (zr (.bool ((Lib.cut s ([35] : List UInt8)).2.2)) (zI (zI (zI (nR (zH (zc (c_lines_fields ((Lib.cut s ([35] : List UInt8)).1) _ (by first | omega | decide | rfl)) ?_)))))))))
 rintro f g ⟨_, rfl, a, e⟩
 have b := b.tr d
 have a := a.base b.size
 refine zH (zc (wN ((Lib.cut s ([35] : List UInt8)).2.1) _ (by first | omega | decide | rfl)) ?_)
 rintro _ h ⟨rfl, c⟩
 have := trm_len ((Lib.cut s ([35] : List UInt8)).2.1)
 have b := (b.tr e).tr c
 have a := a.below c
 exact zI (zI (nQ (zW (yF [f, (S (trmF ((Lib.cut s ([35] : List UInt8)).2.1)))] ⟨f, xO rfl (congrArg S (by rfl)), a.cast (by rfl), b⟩))))
theorem c_lines_named (s : List UInt8) (w : World) (hs : s.length ≤ 1073741824) :
  Calls Tryz.prog 73 #[(S s)] w (Ret fun v w' => v = (.bool (nameF s)) ∧ Below w.heap.size w w') := by
 refine wG 35 func73 rfl ?_
 have e := Below.refl w.heap.size w
 refine wR (zI (nW (wR (zH (L_range s underlying9 zk ?_)))))
 intro o w2 k
 have c := k.ge e.size
 have d := k.here
 refine nQ (zY ?_)
 replace e := e.tr k.below
 refine xD (fun m s0 w0 => ∃ (pos : Nat), (m = s.length - pos) ∧ (s0.ds = []) ∧ ([0, 6].map s0.f = [(S s), (pt o 0)]) ∧ (w0.heap[o]? = some (.stringIter ⟨(s).toArray⟩ pos)) ∧ (Below w.heap.size w w0) ∧ (pos ≤ s.length) ∧ ((s.drop pos).all nmB = s.all nmB)) _ ⟨0, rfl, zk, zk, d, e, by omega, rfl⟩ ?_
 rintro m4 s5 w6 ⟨pos, hm, g, q, d, e, i1, i⟩
 refine yU q (wR ?_)
 rcases Nat.lt_or_ge pos (s).length with a | j
 ·refine L_next s o pos zk d a ?_
  intro b w7 p h
  replace d := h.here
  have := dec_pos s pos; have := dec_fits s pos a; have := dec_le s pos
  have l : 0 ≤ b := by omega
  have n : b ≤ 2147483647 := by omega
  refine zr (.bool true) (nW (zT (zP (zD (zY (wR (zr (I3 b) (zI (nQ (zY (yA (wR (zH (zGe .i32 b 65 ?_ ?_))))))))))))))
  ·intro h9
   refine zH (zw (zH (zw (zLe .i32 b 90 ?_ ?_))))
   ·intro a8
    refine wB (zI (nQ (zT (zP (zD (zT (zP (zJ (zJ ?_)))))))))
    replace e := e.trans (h.below c)
    exact zD ⟨_, zo, (pos + (dec s pos).2), rfl, g, zk, d, e, zo, wK a zo i⟩
   intro bf
   refine wB (zI (nQ (zF (wR (zH (zGe .i32 b 97 ?_ ?_))))))
   ·intro aj
    refine zH (zw (zH (zw (zLe .i32 b 122 ?_ ?_))))
    ·intro am
     refine wB (zI (nQ (zT (zP (zD (zT (zP (zJ (zJ ?_)))))))))
     replace e := e.trans (h.below c)
     exact zD ⟨_, zo, (pos + (dec s pos).2), rfl, g, zk, d, e, zo, wK a zo i⟩
    intro br
    refine wB (zI (nQ (zF (wR (zH (zGe .i32 b 48 ?_ ?_))))))
    ·intro a1
     refine zH (zw (zH (zw (zLe .i32 b 57 ?_ ?_))))
     ·intro z
      refine wB (zI (nQ (zT (zP (zD (zT (zP (zJ (zJ ?_)))))))))
      replace e := e.trans (h.below c)
      exact zD ⟨_, zo, (pos + (dec s pos).2), rfl, g, zk, d, e, zo, wK a zo i⟩
     intro bg
     refine wB (zI (nQ (zF (wR (zH (zEq .i32 b 95 ?_ ?_))))))
     ·intro az
      refine zI (nQ (zT (zP (zD (zT (zP (zJ (zJ ?_))))))))
      replace e := e.trans (h.below c)
      exact zD ⟨_, zo, (pos + (dec s pos).2), rfl, g, zk, d, e, zo, wK a zo i⟩
     intro a2
     refine zI (nQ (zF (zV (zH (zEq .i32 b 45 ?_ ?_)))))
     ·intro bl
      refine zI (nQ (zT (zP (zJ (zJ ?_)))))
      replace e := e.trans (h.below c)
      exact zD ⟨_, zo, (pos + (dec s pos).2), rfl, g, zk, d, e, zo, wK a zo i⟩
     intro bs
     replace e := e.trans (h.below c)
     exact zI (nQ (zF (wR (zI (nQ (zW (zR (zR (zK (zR (zK (yF [(.bool false)] (hd := g) ⟨eb (by exact (nm_off a zo i).symm), e⟩))))))))))))
    intro a7
    refine zH (zs (zs (wM (zI (nQ (zF (wR (zH (zEq .i32 b 95 ?_ ?_)))))))))
    ·intro bd
     refine zI (nQ (zT (zP (zD (zT (zP (zJ (zJ ?_))))))))
     replace e := e.trans (h.below c)
     exact zD ⟨_, zo, (pos + (dec s pos).2), rfl, g, zk, d, e, zo, wK a zo i⟩
    intro bj
    refine zI (nQ (zF (zV (zH (zEq .i32 b 45 ?_ ?_)))))
    ·intro av
     refine zI (nQ (zT (zP (zJ (zJ ?_)))))
     replace e := e.trans (h.below c)
     exact zD ⟨_, zo, (pos + (dec s pos).2), rfl, g, zk, d, e, zo, wK a zo i⟩
    intro be
    replace e := e.trans (h.below c)
    exact zI (nQ (zF (wR (zI (nQ (zW (zR (zR (zK (zR (zK (yF [(.bool false)] (hd := g) ⟨eb (by exact (nm_off a zo i).symm), e⟩))))))))))))
   intro ai
   refine zH (zs (zs (wM (zI (nQ (zF (wR (zH (zGe .i32 b 48 ?_ ?_)))))))))
   ·intro bq
    refine zH (zw (zH (zw (zLe .i32 b 57 ?_ ?_))))
    ·intro a6
     refine wB (zI (nQ (zT (zP (zD (zT (zP (zJ (zJ ?_)))))))))
     replace e := e.trans (h.below c)
     exact zD ⟨_, zo, (pos + (dec s pos).2), rfl, g, zk, d, e, zo, wK a zo i⟩
    intro r
    refine wB (zI (nQ (zF (wR (zH (zEq .i32 b 95 ?_ ?_))))))
    ·intro ab
     refine zI (nQ (zT (zP (zD (zT (zP (zJ (zJ ?_))))))))
     replace e := e.trans (h.below c)
     exact zD ⟨_, zo, (pos + (dec s pos).2), rfl, g, zk, d, e, zo, wK a zo i⟩
    intro al
    refine zI (nQ (zF (zV (zH (zEq .i32 b 45 ?_ ?_)))))
    ·intro a3
     refine zI (nQ (zT (zP (zJ (zJ ?_)))))
     replace e := e.trans (h.below c)
     exact zD ⟨_, zo, (pos + (dec s pos).2), rfl, g, zk, d, e, zo, wK a zo i⟩
    intro ar
    replace e := e.trans (h.below c)
    exact zI (nQ (zF (wR (zI (nQ (zW (zR (zR (zK (zR (zK (yF [(.bool false)] (hd := g) ⟨eb (by exact (nm_off a zo i).symm), e⟩))))))))))))
   intro bm
   refine zH (zs (zs (wM (zI (nQ (zF (wR (zH (zEq .i32 b 95 ?_ ?_)))))))))
   ·intro ak
    refine zI (nQ (zT (zP (zD (zT (zP (zJ (zJ ?_))))))))
    replace e := e.trans (h.below c)
    exact zD ⟨_, zo, (pos + (dec s pos).2), rfl, g, zk, d, e, zo, wK a zo i⟩
   intro ap
   refine zI (nQ (zF (zV (zH (zEq .i32 b 45 ?_ ?_)))))
   ·intro ah
    refine zI (nQ (zT (zP (zJ (zJ ?_)))))
    replace e := e.trans (h.below c)
    exact zD ⟨_, zo, (pos + (dec s pos).2), rfl, g, zk, d, e, zo, wK a zo i⟩
   intro aq
   replace e := e.trans (h.below c)
   exact zI (nQ (zF (wR (zI (nQ (zW (zR (zR (zK (zR (zK (yF [(.bool false)] (hd := g) ⟨eb (by exact (nm_off a zo i).symm), e⟩))))))))))))
  intro bp
  refine zH (zs (zs (wM (zI (nQ (zF (wR (zH (zGe .i32 b 97 ?_ ?_)))))))))
  ·intro aa
   refine zH (zw (zH (zw (zLe .i32 b 122 ?_ ?_))))
   ·intro bc
    refine wB (zI (nQ (zT (zP (zD (zT (zP (zJ (zJ ?_)))))))))
    replace e := e.trans (h.below c)
    exact zD ⟨_, zo, (pos + (dec s pos).2), rfl, g, zk, d, e, zo, wK a zo i⟩
   intro bk
   refine wB (zI (nQ (zF (wR (zH (zGe .i32 b 48 ?_ ?_))))))
   ·intro ao
    refine zH (zw (zH (zw (zLe .i32 b 57 ?_ ?_))))
    ·intro bb
     refine wB (zI (nQ (zT (zP (zD (zT (zP (zJ (zJ ?_)))))))))
     replace e := e.trans (h.below c)
     exact zD ⟨_, zo, (pos + (dec s pos).2), rfl, g, zk, d, e, zo, wK a zo i⟩
    intro ay
    refine wB (zI (nQ (zF (wR (zH (zEq .i32 b 95 ?_ ?_))))))
    ·intro an
     refine zI (nQ (zT (zP (zD (zT (zP (zJ (zJ ?_))))))))
     replace e := e.trans (h.below c)
     exact zD ⟨_, zo, (pos + (dec s pos).2), rfl, g, zk, d, e, zo, wK a zo i⟩
    intro bu
    refine zI (nQ (zF (zV (zH (zEq .i32 b 45 ?_ ?_)))))
    ·intro u
     refine zI (nQ (zT (zP (zJ (zJ ?_)))))
     replace e := e.trans (h.below c)
     exact zD ⟨_, zo, (pos + (dec s pos).2), rfl, g, zk, d, e, zo, wK a zo i⟩
    intro bv
    replace e := e.trans (h.below c)
    exact zI (nQ (zF (wR (zI (nQ (zW (zR (zR (zK (zR (zK (yF [(.bool false)] (hd := g) ⟨eb (by exact (nm_off a zo i).symm), e⟩))))))))))))
   intro bt
   refine zH (zs (zs (wM (zI (nQ (zF (wR (zH (zEq .i32 b 95 ?_ ?_)))))))))
   ·intro ad
    refine zI (nQ (zT (zP (zD (zT (zP (zJ (zJ ?_))))))))
    replace e := e.trans (h.below c)
    exact zD ⟨_, zo, (pos + (dec s pos).2), rfl, g, zk, d, e, zo, wK a zo i⟩
   intro y
   refine zI (nQ (zF (zV (zH (zEq .i32 b 45 ?_ ?_)))))
   ·intro a4
    refine zI (nQ (zT (zP (zJ (zJ ?_)))))
    replace e := e.trans (h.below c)
    exact zD ⟨_, zo, (pos + (dec s pos).2), rfl, g, zk, d, e, zo, wK a zo i⟩
   intro ag
   replace e := e.trans (h.below c)
   exact zI (nQ (zF (wR (zI (nQ (zW (zR (zR (zK (zR (zK (yF [(.bool false)] (hd := g) ⟨eb (by exact (nm_off a zo i).symm), e⟩))))))))))))
  intro aw
  refine zH (zs (zs (wM (zI (nQ (zF (wR (zH (zGe .i32 b 48 ?_ ?_)))))))))
  ·intro a9
   refine zH (zw (zH (zw (zLe .i32 b 57 ?_ ?_))))
   ·intro af
    refine wB (zI (nQ (zT (zP (zD (zT (zP (zJ (zJ ?_)))))))))
    replace e := e.trans (h.below c)
    exact zD ⟨_, zo, (pos + (dec s pos).2), rfl, g, zk, d, e, zo, wK a zo i⟩
   intro bo
   refine wB (zI (nQ (zF (wR (zH (zEq .i32 b 95 ?_ ?_))))))
   ·intro ae
    refine zI (nQ (zT (zP (zD (zT (zP (zJ (zJ ?_))))))))
    replace e := e.trans (h.below c)
    exact zD ⟨_, zo, (pos + (dec s pos).2), rfl, g, zk, d, e, zo, wK a zo i⟩
   intro a0
   refine zI (nQ (zF (zV (zH (zEq .i32 b 45 ?_ ?_)))))
   ·intro bn
    refine zI (nQ (zT (zP (zJ (zJ ?_)))))
    replace e := e.trans (h.below c)
    exact zD ⟨_, zo, (pos + (dec s pos).2), rfl, g, zk, d, e, zo, wK a zo i⟩
   intro t
   replace e := e.trans (h.below c)
   exact zI (nQ (zF (wR (zI (nQ (zW (zR (zR (zK (zR (zK (yF [(.bool false)] (hd := g) ⟨eb (by exact (nm_off a zo i).symm), e⟩))))))))))))
  intro au
  refine zH (zs (zs (wM (zI (nQ (zF (wR (zH (zEq .i32 b 95 ?_ ?_)))))))))
  ·intro ac
   refine zI (nQ (zT (zP (zD (zT (zP (zJ (zJ ?_))))))))
   replace e := e.trans (h.below c)
   exact zD ⟨_, zo, (pos + (dec s pos).2), rfl, g, zk, d, e, zo, wK a zo i⟩
  intro a5
  refine zI (nQ (zF (zV (zH (zEq .i32 b 45 ?_ ?_)))))
  ·intro ba
   refine zI (nQ (zT (zP (zJ (zJ ?_)))))
   replace e := e.trans (h.below c)
   exact zD ⟨_, zo, (pos + (dec s pos).2), rfl, g, zk, d, e, zo, wK a zo i⟩
  intro bi
  replace e := e.trans (h.below c)
  exact zI (nQ (zF (wR (zI (nQ (zW (zR (zR (zK (zR (zK (yF [(.bool false)] (hd := g) ⟨eb (by exact (nm_off a zo i).symm), e⟩))))))))))))
 refine L_nextEnd s o pos zk d j (zr (.bool false) (nW (zF (yR (zL (zL (yD (zD (wR (zH (L_sne s ([] : List UInt8) rfl zk zk ?_ ?_)))))))))))
 ·intro ax
  exact zI (nQ (zW (yF [(.bool true)] (hd := g) ⟨eb (by (rw [nm_end zo i]; simp [*]; done)), e⟩)))
 intro bh
 exact zI (nQ (zW (yF [(.bool false)] (hd := g) ⟨eb (by (rw [nm_end zo i]; simp [*]; done)), e⟩)))
theorem c_lines_pieces (s : List UInt8) (w : World) (hs : s.length ≤ 1073741824) :
  Calls Tryz.prog 67 #[(S s)] w (Ret fun v w' => ∃ (q0 : Value), v = q0 ∧ Row w' w.heap.size 129 3 encPc q0 (pcsI s) ∧ Below w.heap.size w w') := by
 refine wG 53 func67 rfl ?_
 have g := Below.refl w.heap.size w
 have bu := mark_len s
 refine wR (zI (nR (zI (nR (zI (nW (wR (zH (zc (xK s ([239, 187, 191] : List UInt8) _ ) ?_)))))))))
 rintro _ w1 ⟨rfl, ar⟩
 refine yK (hpB s ([239, 187, 191] : List UInt8)) ?_ ?_
 ·intro h4
  have := hp_len h4; simp only [List.length_cons, List.length_nil] at this
  refine nQ (zT (zV (zI (nQ (zY ?_)))))
  replace g := g.tr ar
  refine xD (fun m s0 w0 => ∃ (a : Int) (h : List (Int × Int × Int)) (i : Value), (m = s.length - a.toNat) ∧ (s0.ds = []) ∧ ([0, 3, 4].map s0.f = [(S s), i, (I6 a)]) ∧ (Row w0 w.heap.size 129 3 encPc i h) ∧ (Below w.heap.size w w0) ∧ (0 ≤ a) ∧ (a ≤ s.length) ∧ (h.length ≤ a.toNat) ∧ (h ++ (pcsFrom s a.toNat a.toNat).map toI = pcsI s)) _ ⟨3, [], (.slice none 0 0), rfl, zk, zk, Row.nil _ _ _ _ _, g, by omega, by omega, zi, (by simp [pcsI, markN, markT, *])⟩ ?_
  rintro m5 s6 w7 ⟨a, h, i, hm, q, am, d, g, i1, i2, i4, i3⟩
  refine yU am ?_
  have be : (List.drop a.toNat s).length = s.length - a.toNat := List.length_drop
  refine zY (wR (zH (zH (L_ssfrom s ((a).toNat) underlying9 zk (toNat_val a .i64 zk zo) zo (zc (xT (List.drop ((a).toNat) s) 10 _ ) ?_)))))
  rintro _ w8 ⟨rfl, ab⟩
  have := ib_range (List.drop ((a).toNat) s) 10
  refine zI (nW (wR (zH (zLt .i64 (ibF (List.drop ((a).toNat) s) 10) 0 ?_ ?_))))
  ·intro b9
   replace g := g.tr ab
   replace d := d.below ab
   refine nQ (zT (wR (zH (zH (zH (zsl 9 s (zH (zsl 9 s (zr (Value.agg #[(I6 a), (N6 ((s).length)), (N6 ((s).length))]) (wO el126 w.heap.size i h (a, (((s).length : Nat) : Int), (((s).length : Nat) : Int)) g.size d zo zk rfl rfl zk rfl zk zk ?_))))))))))
   intro a7 bz az a3 ba
   replace g := g.tg g.size a3 d
   replace d := az
   exact zI (nQ (zW (zK (zR (zK (zR (yF [a7] (hd := q) ⟨a7, rfl, d.cast (by exact pcsZ_end i1 i2 zo i3), g⟩)))))))
  intro ca
  refine nQ (zF (zP (zD (wR (zH (zH (zH (xM a (ibF (List.drop ((a).toNat) s) 10) (a + (ibF (List.drop ((a).toNat) s) 10)) rfl zk zk (xC _ zh zh) (zH (zH (xM a (ibF (List.drop ((a).toNat) s) 10) (a + (ibF (List.drop ((a).toNat) s) 10)) rfl zk zk (xC _ zh zh) (xM (a + (ibF (List.drop ((a).toNat) s) 10)) 1 ((a + (ibF (List.drop ((a).toNat) s) 10)) + 1) rfl zk zk (xC _ zh zh) (zr (Value.agg #[(I6 a), (I6 (a + (ibF (List.drop ((a).toNat) s) 10))), (I6 ((a + (ibF (List.drop ((a).toNat) s) 10)) + 1))]) (zN [(I6 0), (I6 0), (I6 0)] 129 ?_))))))))))))))
  intro a4 b4 l
  replace g := g.tr ab
  have n := l.ge g.size
  replace d := d.below ab
  have b := d.new_ne l
  have c := l.here
  refine zAW [(I6 a), (I6 (a + (ibF (List.drop ((a).toNat) s) 10))), (I6 ((a + (ibF (List.drop ((a).toNat) s) 10)) + 1))] c ?_
  intro bw p
  replace c := p.here
  refine nW (wR (zH (zGt .i64 (ibF (List.drop ((a).toNat) s) 10) 0 ?_ ?_)))
  ·intro b7
   refine zH (zw (zH (zw (zr (pt a4 1) (zw (zO 1 c rfl (zw (xM (a + (ibF (List.drop ((a).toNat) s) 10)) 1 ((a + (ibF (List.drop ((a).toNat) s) 10)) - 1) rfl zk zk (xC _ zh zh) (zw ?_)))))))))
   have hz := zU s (((a + (ibF (List.drop ((a).toNat) s) 10)) - 1).toNat) zo; obtain ⟨t, a2⟩ := hz
   have := t.toNat_lt
   refine L_sindexZ (k := .i64) s ((a + (ibF (List.drop ((a).toNat) s) 10)) - 1) (((a + (ibF (List.drop ((a).toNat) s) 10)) - 1).toNat) t zo underlying9 a2 zk zk (zw (wZ .u8 ((t.toNat : Nat) : Int) ((13 : Nat) : Int) (t.toNat = 13) rfl (cmpN_eq t.toNat 13) zk zk ?_ ?_))
   ·intro bh
    replace bh : t.toNat = 13 := by omega
    refine wB (nQ (zT (zV (zFO 1 c rfl (xM (a + (ibF (List.drop ((a).toNat) s) 10)) 1 ((a + (ibF (List.drop ((a).toNat) s) 10)) - 1) rfl zk zk (xC _ zh zh) (zr (pt a4 1) (z1 1 (I6 ((a + (ibF (List.drop ((a).toNat) s) 10)) - 1)) [(I6 a), (I6 ((a + (ibF (List.drop ((a).toNat) s) 10)) - 1)), (I6 ((a + (ibF (List.drop ((a).toNat) s) 10)) + 1))] c ?_)))))))
    intro b8 y
    replace c := y.here
    replace g := ((g.tr l.below).trans (p.below n)).trans (y.below n)
    replace d := ((d.below l.below).wrote p b).wrote y b
    refine nR (zH (zOW c (wO el126 w.heap.size i h (a, ((a + (ibF (List.drop ((a).toNat) s) 10)) - 1), ((a + (ibF (List.drop ((a).toNat) s) 10)) + 1)) g.size d zo zk rfl rfl zk rfl zk zk ?_)))
    intro bc cb a8 ae ap
    have e := wH ap b (yC c)
    replace g := g.tg g.size ae d
    replace c := yB c ae b
    have b := e
    replace d := a8
    refine zI (nQ (zV (zFO 2 c rfl (zI (zS (zJ (zD ⟨_, zo, ((a + (ibF (List.drop ((a).toNat) s) 10)) + 1), (h ++ [(a, ((a + (ibF (List.drop ((a).toNat) s) 10)) - 1), ((a + (ibF (List.drop ((a).toNat) s) 10)) + 1))]), bc, rfl, q, zk, d, g, zo, zo, ?_, ?_⟩)))))))
    ·simp only [List.length_append, List.length_cons, List.length_nil]; omega
    exact pcsZ_step i1 rfl zo (.inl ⟨rfl, by omega, _, by assumption, by assumption⟩) i3
   intro bd
   replace bd : t.toNat ≠ 13 := by omega
   replace g := (g.tr l.below).trans (p.below n)
   replace d := (d.below l.below).wrote p b
   refine wB (nQ (zF (zP (zD (wR (zH (zOW c (wO el126 w.heap.size i h (a, (a + (ibF (List.drop ((a).toNat) s) 10)), ((a + (ibF (List.drop ((a).toNat) s) 10)) + 1)) g.size d zo zk rfl rfl zk rfl zk zk ?_))))))))
   intro bk bv aq af aj
   have e := wH aj b (yC c)
   replace g := g.tg g.size af d
   replace c := yB c af b
   have b := e
   replace d := aq
   refine zI (nQ (zV (zFO 2 c rfl (zI (zS (zJ (zD ⟨_, zo, ((a + (ibF (List.drop ((a).toNat) s) 10)) + 1), (h ++ [(a, (a + (ibF (List.drop ((a).toNat) s) 10)), ((a + (ibF (List.drop ((a).toNat) s) 10)) + 1))]), bk, rfl, q, zk, d, g, zo, zo, ?_, ?_⟩)))))))
   ·simp only [List.length_append, List.length_cons, List.length_nil]; omega
   exact pcsZ_step i1 rfl zo (.inr ⟨rfl, .inr ⟨_, by assumption, by assumption⟩⟩) i3
  intro ce
  replace g := (g.tr l.below).trans (p.below n)
  replace d := (d.below l.below).wrote p b
  refine zH (zs (zs (zs (zs (zs (zs (wM (nQ (zF (zP (zD (wR (zH (zOW c (wO el126 w.heap.size i h (a, (a + (ibF (List.drop ((a).toNat) s) 10)), ((a + (ibF (List.drop ((a).toNat) s) 10)) + 1)) g.size d zo zk rfl rfl zk rfl zk zk ?_)))))))))))))))
  intro bl bs a1 ag an
  have e := wH an b (yC c)
  replace g := g.tg g.size ag d
  replace c := yB c ag b
  have b := e
  replace d := a1
  refine zI (nQ (zV (zFO 2 c rfl (zI (zS (zJ (zD ⟨_, zo, ((a + (ibF (List.drop ((a).toNat) s) 10)) + 1), (h ++ [(a, (a + (ibF (List.drop ((a).toNat) s) 10)), ((a + (ibF (List.drop ((a).toNat) s) 10)) + 1))]), bl, rfl, q, zk, d, g, zo, zo, ?_, ?_⟩)))))))
  ·simp only [List.length_append, List.length_cons, List.length_nil]; omega
  exact pcsZ_step i1 rfl zo (.inr ⟨rfl, .inl zo⟩) i3
 intro b1
 refine nQ (zF (zP (zD (zY ?_))))
 replace g := g.tr ar
 refine xD (fun m s0 w0 => ∃ (a : Int) (h : List (Int × Int × Int)) (i : Value), (m = s.length - a.toNat) ∧ (s0.ds = []) ∧ ([0, 3, 4].map s0.f = [(S s), i, (I6 a)]) ∧ (Row w0 w.heap.size 129 3 encPc i h) ∧ (Below w.heap.size w w0) ∧ (0 ≤ a) ∧ (a ≤ s.length) ∧ (h.length ≤ a.toNat) ∧ (h ++ (pcsFrom s a.toNat a.toNat).map toI = pcsI s)) _ ⟨0, [], (.slice none 0 0), rfl, zk, zk, Row.nil _ _ _ _ _, g, by omega, by omega, zi, (by simp [pcsI, markN, markT, *])⟩ ?_
 rintro b6 bx b0 ⟨a, h, i, hm, q, am, d, g, i1, i2, i4, i3⟩
 refine yU am ?_
 have be : (List.drop a.toNat s).length = s.length - a.toNat := List.length_drop
 refine zY (wR (zH (zH (L_ssfrom s ((a).toNat) underlying9 zk (toNat_val a .i64 zk zo) zo (zc (xT (List.drop ((a).toNat) s) 10 _ ) ?_)))))
 rintro _ cj ⟨rfl, u⟩
 have := ib_range (List.drop ((a).toNat) s) 10
 refine zI (nW (wR (zH (zLt .i64 (ibF (List.drop ((a).toNat) s) 10) 0 ?_ ?_))))
 ·intro bo
  replace g := g.tr u
  replace d := d.below u
  refine nQ (zT (wR (zH (zH (zH (zsl 9 s (zH (zsl 9 s (zr (Value.agg #[(I6 a), (N6 ((s).length)), (N6 ((s).length))]) (wO el126 w.heap.size i h (a, (((s).length : Nat) : Int), (((s).length : Nat) : Int)) g.size d zo zk rfl rfl zk rfl zk zk ?_))))))))))
  intro a6 bq a0 aw bj
  replace g := g.tg g.size aw d
  replace d := a0
  exact zI (nQ (zW (zK (zR (zK (zR (yF [a6] (hd := q) ⟨a6, rfl, d.cast (by exact pcsZ_end i1 i2 zo i3), g⟩)))))))
 intro cd
 refine nQ (zF (zP (zD (wR (zH (zH (zH (xM a (ibF (List.drop ((a).toNat) s) 10) (a + (ibF (List.drop ((a).toNat) s) 10)) rfl zk zk (xC _ zh zh) (zH (zH (xM a (ibF (List.drop ((a).toNat) s) 10) (a + (ibF (List.drop ((a).toNat) s) 10)) rfl zk zk (xC _ zh zh) (xM (a + (ibF (List.drop ((a).toNat) s) 10)) 1 ((a + (ibF (List.drop ((a).toNat) s) 10)) + 1) rfl zk zk (xC _ zh zh) (zr (Value.agg #[(I6 a), (I6 (a + (ibF (List.drop ((a).toNat) s) 10))), (I6 ((a + (ibF (List.drop ((a).toNat) s) 10)) + 1))]) (zN [(I6 0), (I6 0), (I6 0)] 129 ?_))))))))))))))
 intro av b3 j
 replace g := g.tr u
 have n := j.ge g.size
 replace d := d.below u
 have b := d.new_ne j
 have c := j.here
 refine zAW [(I6 a), (I6 (a + (ibF (List.drop ((a).toNat) s) 10))), (I6 ((a + (ibF (List.drop ((a).toNat) s) 10)) + 1))] c ?_
 intro b5 o
 replace c := o.here
 refine nW (wR (zH (zGt .i64 (ibF (List.drop ((a).toNat) s) 10) 0 ?_ ?_)))
 ·intro bt
  refine zH (zw (zH (zw (zr (pt av 1) (zw (zO 1 c rfl (zw (xM (a + (ibF (List.drop ((a).toNat) s) 10)) 1 ((a + (ibF (List.drop ((a).toNat) s) 10)) - 1) rfl zk zk (xC _ zh zh) (zw ?_)))))))))
  have hz := zU s (((a + (ibF (List.drop ((a).toNat) s) 10)) - 1).toNat) zo; obtain ⟨r, a5⟩ := hz
  have := r.toNat_lt
  refine L_sindexZ (k := .i64) s ((a + (ibF (List.drop ((a).toNat) s) 10)) - 1) (((a + (ibF (List.drop ((a).toNat) s) 10)) - 1).toNat) r zo underlying9 a5 zk zk (zw (wZ .u8 ((r.toNat : Nat) : Int) ((13 : Nat) : Int) (r.toNat = 13) rfl (cmpN_eq r.toNat 13) zk zk ?_ ?_))
  ·intro bi
   replace bi : r.toNat = 13 := by omega
   refine wB (nQ (zT (zV (zFO 1 c rfl (xM (a + (ibF (List.drop ((a).toNat) s) 10)) 1 ((a + (ibF (List.drop ((a).toNat) s) 10)) - 1) rfl zk zk (xC _ zh zh) (zr (pt av 1) (z1 1 (I6 ((a + (ibF (List.drop ((a).toNat) s) 10)) - 1)) [(I6 a), (I6 ((a + (ibF (List.drop ((a).toNat) s) 10)) - 1)), (I6 ((a + (ibF (List.drop ((a).toNat) s) 10)) + 1))] c ?_)))))))
   intro bp z
   replace c := z.here
   replace g := ((g.tr j.below).trans (o.below n)).trans (z.below n)
   replace d := ((d.below j.below).wrote o b).wrote z b
   refine nR (zH (zOW c (wO el126 w.heap.size i h (a, ((a + (ibF (List.drop ((a).toNat) s) 10)) - 1), ((a + (ibF (List.drop ((a).toNat) s) 10)) + 1)) g.size d zo zk rfl rfl zk rfl zk zk ?_)))
   intro bg cg ay ad al
   have e := wH al b (yC c)
   replace g := g.tg g.size ad d
   replace c := yB c ad b
   have b := e
   replace d := ay
   refine zI (nQ (zV (zFO 2 c rfl (zI (zS (zJ (zD ⟨_, zo, ((a + (ibF (List.drop ((a).toNat) s) 10)) + 1), (h ++ [(a, ((a + (ibF (List.drop ((a).toNat) s) 10)) - 1), ((a + (ibF (List.drop ((a).toNat) s) 10)) + 1))]), bg, rfl, q, zk, d, g, zo, zo, ?_, ?_⟩)))))))
   ·simp only [List.length_append, List.length_cons, List.length_nil]; omega
   exact pcsZ_step i1 rfl zo (.inl ⟨rfl, by omega, _, by assumption, by assumption⟩) i3
  intro bn
  replace bn : r.toNat ≠ 13 := by omega
  replace g := (g.tr j.below).trans (o.below n)
  replace d := (d.below j.below).wrote o b
  refine wB (nQ (zF (zP (zD (wR (zH (zOW c (wO el126 w.heap.size i h (a, (a + (ibF (List.drop ((a).toNat) s) 10)), ((a + (ibF (List.drop ((a).toNat) s) 10)) + 1)) g.size d zo zk rfl rfl zk rfl zk zk ?_))))))))
  intro bm br ax ai ak
  have e := wH ak b (yC c)
  replace g := g.tg g.size ai d
  replace c := yB c ai b
  have b := e
  replace d := ax
  refine zI (nQ (zV (zFO 2 c rfl (zI (zS (zJ (zD ⟨_, zo, ((a + (ibF (List.drop ((a).toNat) s) 10)) + 1), (h ++ [(a, (a + (ibF (List.drop ((a).toNat) s) 10)), ((a + (ibF (List.drop ((a).toNat) s) 10)) + 1))]), bm, rfl, q, zk, d, g, zo, zo, ?_, ?_⟩)))))))
  ·simp only [List.length_append, List.length_cons, List.length_nil]; omega
  exact pcsZ_step i1 rfl zo (.inr ⟨rfl, .inr ⟨_, by assumption, by assumption⟩⟩) i3
 intro ch
 replace g := (g.tr j.below).trans (o.below n)
 replace d := (d.below j.below).wrote o b
 refine zH (zs (zs (zs (zs (zs (zs (wM (nQ (zF (zP (zD (wR (zH (zOW c (wO el126 w.heap.size i h (a, (a + (ibF (List.drop ((a).toNat) s) 10)), ((a + (ibF (List.drop ((a).toNat) s) 10)) + 1)) g.size d zo zk rfl rfl zk rfl zk zk ?_)))))))))))))))
 intro a9 b2 au ah ao
 have e := wH ao b (yC c)
 replace g := g.tg g.size ah d
 replace c := yB c ah b
 have b := e
 replace d := au
 refine zI (nQ (zV (zFO 2 c rfl (zI (zS (zJ (zD ⟨_, zo, ((a + (ibF (List.drop ((a).toNat) s) 10)) + 1), (h ++ [(a, (a + (ibF (List.drop ((a).toNat) s) 10)), ((a + (ibF (List.drop ((a).toNat) s) 10)) + 1))]), a9, rfl, q, zk, d, g, zo, zo, ?_, ?_⟩)))))))
 ·simp only [List.length_append, List.length_cons, List.length_nil]; omega
 exact pcsZ_step i1 rfl zo (.inr ⟨rfl, .inl zo⟩) i3
theorem it_lines_Each_1 (z : Nat) (s : List UInt8) (hs : s.length ≤ 1073741824) :
  Iter (α := Int × List UInt8) Tryz.prog 66 [.pointer (some ⟨z, 0, none⟩)] (fun x => [.int .i64 x.1, S x.2]) (toldF s) (fun w => w.heap[z]? = some (.cells [(S s)].toArray 9 (0, 0))) := by
 intro l J Jx w hN h0 af aw hY
 refine wG 30 func66 rfl ?_
 have hb := Below.refl w.heap.size w
 have hs : w.heap.size ≤ w.heap.size := Nat.le_refl _
 have a := hN
 refine wR (zO 0 a rfl (zc (c_lines_pieces s _ zo) ?_))
 rintro q1 w2 ⟨_, rfl, b, ad⟩
 have b := b.base hs
 have hb := hb.trans (ad.mono hs)
 replace hs := Nat.le_trans hs (ad.size)
 have := pcsI_len s
 refine zln underlying126 (b.rd).len (zH (nQ (zY ?_)))
 have r := h0 _ hb
 obtain ⟨K, ap⟩ : ∃ K, K = w2.heap.size := ⟨_, rfl⟩
 rw [← ap] at r
 have u : K ≤ w2.heap.size := by omega
 have ak : w.heap.size ≤ K := by omega
 have t : ∀ g, Value.ownBlock q1 = some g → Iv w.heap.size K g := fun g hg => by have := World.ownsRow.lt b g hg; exact ⟨this.1, by omega⟩
 have a := zC a ad
 refine xD (fun m s0 w0 => ∃ (i : Nat) (q : List (Int × List UInt8)), (m = (pcsI s).length - i) ∧ (s0.ds = []) ∧ ([0, 1, 6, 7, 8].map s0.f = [(.func (.yield l) #[] #[]), (pt z 0), q1, (N6 ((pcsI s).length)), (N6 i)]) ∧ (Row w0 w.heap.size 129 3 encPc q1 (pcsI s)) ∧ (w0.heap[z]? = some (.cells [(S s)].toArray 9 (0, 0))) ∧ (w.heap.size ≤ w0.heap.size) ∧ (K ≤ w0.heap.size) ∧ (J K q w0) ∧ (i ≤ (pcsI s).length) ∧ (q ++ toldL s i ((pcsI s).drop i) = toldF s)) _ ⟨0, [], rfl, zk, zk, b, a, hs, u, r, by omega, rfl⟩ ?_
 rintro m5 s6 w7 ⟨i, q, hm, aa, ao, b, a, hs, u, r, i1, i3⟩
 refine yU ao (wR (nLt i ((pcsI s).length) ?_ ?_))
 ·intro h8
  refine nW (zT (zP (zD (yA (zY (wR (zH ?_)))))))
  have hz := zU (pcsI s) i zo; obtain ⟨o, ac⟩ := hz
  have an := pcsI_ok ac
  obtain ⟨ay, ba, a7, a3⟩ := an
  refine zEA b.rd el126 i ac [(I6 o.1), (I6 o.2.1), (I6 o.2.2)] rfl fun _ => (zN [(I6 0), (I6 0), (I6 0)] 129 ?_)
  intro ag a6 c
  have au := c.ge hs
  have p := Ch.refl (Iv w.heap.size K) w7
  have v : (World.heap w7).size ≤ ag ∨ Iv w.heap.size K ag := .inl (by rw [c.num]; exact p.size)
  have n := b.new_ne c
  replace u := Nat.le_trans u (c.below.size)
  replace hs := Nat.le_trans hs (c.below.size)
  have d := c.here
  refine zI (zAW [(I6 o.1), (I6 o.2.1), (I6 o.2.2)] d ?_)
  intro a0 j
  replace u := Nat.le_trans u (Nat.le_of_eq j.size.symm)
  replace hs := Nat.le_trans hs (Nat.le_of_eq j.size.symm)
  have a := zC a c.below
  have a := zG a j (zQ a d zi)
  have d := j.here
  refine nW (wR (zFO 0 d rfl (zFO 2 d rfl (zEq .i64 o.1 o.2.2 ?_ ?_))))
  ·intro ax
   refine nQ (zT (zW (zK (zR (zK (zK (zR (yF [] (hd := aa) ?_))))))))
   replace p := (p.trans2 (Ch.of_below c.below) (fun _ h => h.elim)).trans2 (Ch.of_wrote j) (fun k e => e ▸ v)
   replace r := af _ _ _ _ r p
   clear p
   have y : q = toldF s := by exact told_stop za za i3
   rw [y] at r
   exact ⟨hs, Or.inl ⟨K, r⟩⟩
  intro a8
  refine nQ (zF (zP (zD (wR (zH (zH (zad i 1 (zO 0 a rfl (zFO 0 d rfl (zFO 1 d rfl (L_sslice s ((o.1).toNat) ((o.2.1).toNat) underlying9 zk (toNat_val o.1 .i64 zk zo) (toNat_val o.2.1 .i64 zk zo) zo zo ?_)))))))))))
  replace p := (p.trans2 (Ch.of_below c.below) (fun _ h => h.elim)).trans2 (Ch.of_wrote j) (fun k e => e ▸ v)
  replace r := af _ _ _ _ r p
  clear p
  have ab : q ++ [((((i + 1) : Nat) : Int), (List.drop ((o.1).toNat) (List.take ((o.2.1).toNat) s)))] <+: toldF s := by exact pre_of3 (told_step za za i3)
  refine L_yield l [(N6 (i + 1)), (S (List.drop ((o.1).toNat) (List.take ((o.2.1).toNat) s)))] zk zk (hY K q ((((i + 1) : Nat) : Int), (List.drop ((o.1).toNat) (List.take ((o.2.1).toNat) s))) _ r a ak u ab) ?_
  rintro e a1 (⟨rfl, ai, hk, al⟩ | ⟨rfl, aq, hk⟩)
  ·refine ⟨true, rfl, ?_⟩
   have b := (b.below c.below).wrote j n
   have b := b.kp hk t
   replace hs := Nat.le_trans hs hk.size
   replace u := Nat.le_trans u hk.size
   replace r := ai
   have a := al
   refine znt true (nQ (zF (zP (zJ (zD (zV (zad i 1 (zH (zS (zD ⟨_, zo, (i + 1), (q ++ [((((i + 1) : Nat) : Int), (List.drop ((o.1).toNat) (List.take ((o.2.1).toNat) s)))]), rfl, aa, zk, b, a, hs, u, r, zo, ?_⟩))))))))))
   exact told_step za za i3
  refine ⟨false, rfl, ?_⟩
  replace hs := Nat.le_trans hs hk.size
  replace u := Nat.le_trans u hk.size
  refine znt false (nQ (zT (zW (zR (zK (zK (zR (yF [] (hd := aa) ?_))))))))
  exact ⟨hs, Or.inr ⟨K, _, _, ab, aq⟩⟩
 intro a9
 refine nW (zF (yR (zL (zL (yD (znrm [] (hd := aa) ?_))))))
 have y : q = toldF s := by exact told_end zo i3
 rw [y] at r
 exact ⟨hs, Or.inl ⟨K, r⟩⟩
theorem c_lines_Each (s : List UInt8) (w : World) :
  Calls Tryz.prog 37 #[(S s)] w (Ret fun v w' => ∃ (cb0 : Nat), v = (.func (.func 66) #[] #[(pt cb0 0)]) ∧ w'.heap[cb0]? = some (.cells [(S s)].toArray 9 (0, 0)) ∧ w.heap.size ≤ cb0 ∧ Below w.heap.size w w') := by
 refine wG 4 func37 rfl ?_
 have d := Below.refl w.heap.size w
 refine wR (zN [(S s)] 9 ?_)
 intro e f a
 have c := a.ge d.size
 have b := a.here
 have d := d.tr a.below
 exact zI (nR (zr (.func (.func 66) #[] #[(pt e 0)]) (zI (nQ (zW (yF [(.func (.func 66) #[] #[(pt e 0)])] ⟨e, rfl, b, c, d⟩))))))
end Go.Proofs.YtddnhlobnembaaaGreatDoor
end

/- === Wlscan === -/
section
/- Walks, written by my program walk.py out of the specification lscan.py: each theorem says what one function returns and that it leaves memory as it was. -/
namespace Go.Proofs.YtddnhlobnembaaaGreatDoor
open Go Go.RowKit Go.FK _root_.Go.Proofs.Tryz
set_option maxHeartbeats 4000000
set_option maxRecDepth 100000
theorem c_lines_Scan (no : Int) (s : List UInt8) (w : World) (hs : s.length ≤ 1073741824) :
  Calls Tryz.prog 39 #[(I6 no), (S s)] w (Ret fun v w' => ∃ (q0 : Value), v = (.tuple #[(Value.agg #[(I6 ((scanF no s).1.1)), (U8 ((scanF no s).1.2.1)), (S ((scanF no s).1.2.2.1)), q0, (S ((scanF no s).1.2.2.2.2))]), (I6 ((scanF no s).2))]) ∧ Row w' w.heap.size 9 1 encStr q0 ((scanF no s).1.2.2.2.1) ∧ Below w.heap.size w w') := by
 refine wG 84 func39 rfl ?_
 have o := Below.refl w.heap.size w
 have cr := cutF_len s
 refine wR (zN [(I6 0), (U8 0), (S []), (.slice none 0 0), (S [])] 90 ?_)
 intro b1 w2 bh
 have aa := bh.ge o.size
 have c := bh.here
 refine zI (nW (wR (zH (zc (c_lines_Check s _ zo) ?_))))
 rintro _ w4 ⟨rfl, bg⟩
 have := chkF_range s
 refine zH (zr (N6 ((chkF s).1)) (zr (I6 ((chkF s).2)) (zI (zI (nR (zH (zNe .i64 ((chkF s).2) 0 ?_ ?_)))))))
 ·intro h7
  replace c := zC c bg
  refine nQ (zT (wR (zr (Value.agg #[(I6 0), (U8 0), (S []), (.slice none 0 0), (S [])]) (zH (zAW [(I6 0), (U8 0), (S []), (.slice none 0 0), (S [])] c ?_)))))
  intro w8 bl
  replace c := bl.here
  refine zI (nQ (zW (zK (xF [.cell 4 90, .tmp 5] [(Value.agg #[(I6 0), (U8 0), (S []), (.slice none 0 0), (S [])]), (I6 ((chkF s).2))] rfl rfl ⟨⟨⟨b1, 0, none⟩, zk, xA [(I6 0), (U8 0), (S []), (.slice none 0 0), (S [])] zk zk (yV c)⟩, zk, trivial⟩ ?_))))
  replace o := ((o.tr bh.below).tr bg).trans (bl.below aa)
  exact ⟨(.slice none 0 0), xO (by (rw [scan_bad za]; try rfl; done)) (e6 (by (rw [scan_bad za]; try rfl; done))), (Row.nil _ _ _ _ _).cast (by (rw [scan_bad za]; try rfl; done)), o⟩
 intro c6
 refine nQ (zF (zP (zD (wR (zH (zr (Value.agg #[(I6 no), (U8 0), (S []), (.slice none 0 0), (S [])]) (zN [(I6 0), (U8 0), (S []), (.slice none 0 0), (S [])] 90 ?_)))))))
 intro z c3 u
 replace c := zC c bg
 have a := yZ (yC c) u
 replace o := (o.tr bh.below).tr bg
 have e := u.ge o.size
 have b := u.here
 refine zAW [(I6 no), (U8 0), (S []), (.slice none 0 0), (S [])] b ?_
 intro da y
 replace b := y.here
 refine nR (zH (zc (c_lines_Cut s _ zo) ?_))
 rintro _ dg ⟨l, rfl, d, j⟩
 replace o := (o.tr u.below).trans (y.below e)
 replace d := d.base o.size
 replace b := zC b j
 refine zH (zr l (zr (S ((cutF s).2)) (zr (pt z 3) (wF z 3 l [(I6 no), (U8 0), (S []), (.slice none 0 0), (S [])] [(I6 no), (U8 0), (S []), l, (S [])] 90 zk zk d.one zk b zi rfl ?_))))
 intro c8 i
 replace d := d.wrote i (d.ne b zi)
 replace b := i.here
 refine zr (pt z 4) (z1 4 (S ((cutF s).2)) [(I6 no), (U8 0), (S []), l, (S ((cutF s).2))] b ?_)
 intro df h
 replace d := d.wrote h (d.ne b zi)
 replace b := h.here
 refine nR (zH (zc (c_strings_Cut s ([35] : List UInt8) _ (by rfl) zo) ?_))
 rintro _ dc ⟨rfl, f⟩
 have := wC s ([35] : List UInt8)
 refine zH (zr (S ((Lib.cut s ([35] : List UInt8)).1)) (zr (S ((Lib.cut s ([35] : List UInt8)).2.1)) (zr (.bool ((Lib.cut s ([35] : List UInt8)).2.2)) (yK ((Lib.cut s ([35] : List UInt8)).2.2) ?_ ?_))))
 ·intro ct
  refine zI (zI (zI (nR (zH (zc (wN ((Lib.cut s ([35] : List UInt8)).1) _ zo) ?_)))))
  rintro _ cl ⟨rfl, p⟩
  have := trm_len ((Lib.cut s ([35] : List UInt8)).1)
  refine zI (nW (zY (wR (zH (zc (xK (trmF ((Lib.cut s ([35] : List UInt8)).1)) ([64] : List UInt8) _ ) ?_)))))
  rintro _ cu ⟨rfl, q⟩
  refine yK (hpB (trmF ((Lib.cut s ([35] : List UInt8)).1)) ([64] : List UInt8)) ?_ ?_
  ·intro bm
   have := hp_len bm; simp only [List.length_cons, List.length_nil] at this
   refine zI (nQ (zT (wR (zH (L_ssfrom (trmF ((Lib.cut s ([35] : List UInt8)).1)) 1 underlying9 zk ⟨.i64, zk⟩ zo (zc (c_strings_Cut (List.drop 1 (trmF ((Lib.cut s ([35] : List UInt8)).1))) ([58] : List UInt8) _ (by rfl) (by (simp only [List.length_drop, List.length_take] at *; omega))) ?_))))))
   rintro _ c4 ⟨rfl, ae⟩
   have := wC (List.drop 1 (trmF ((Lib.cut s ([35] : List UInt8)).1))) ([58] : List UInt8)
   refine zH (zr (S ((Lib.cut (List.drop 1 (trmF ((Lib.cut s ([35] : List UInt8)).1))) ([58] : List UInt8)).1)) (zr (S ((Lib.cut (List.drop 1 (trmF ((Lib.cut s ([35] : List UInt8)).1))) ([58] : List UInt8)).2.1)) (zr (.bool ((Lib.cut (List.drop 1 (trmF ((Lib.cut s ([35] : List UInt8)).1))) ([58] : List UInt8)).2.2)) (yK ((Lib.cut (List.drop 1 (trmF ((Lib.cut s ([35] : List UInt8)).1))) ([58] : List UInt8)).2.2) ?_ ?_))))
   ·intro cs
    refine zI (zI (zI (nW (wR (zH (znt true (zH (zw (zH (zw (zc (c_lines_named ((Lib.cut (List.drop 1 (trmF ((Lib.cut s ([35] : List UInt8)).1))) ([58] : List UInt8)).1) _ (by (simp only [List.length_drop, List.length_take] at *; omega))) ?_)))))))))))
    rintro _ cg ⟨rfl, aq⟩
    refine yK (nameF ((Lib.cut (List.drop 1 (trmF ((Lib.cut s ([35] : List UInt8)).1))) ([58] : List UInt8)).1)) ?_ ?_
    ·intro c9
     refine zw (znt true (wM (nQ (zF (zP (zD (zV (zH (zH (zc (c_lines_fields ((Lib.cut (List.drop 1 (trmF ((Lib.cut s ([35] : List UInt8)).1))) ([58] : List UInt8)).2.1) _ (by (simp only [List.length_drop, List.length_take] at *; omega))) ?_))))))))))
     rintro ay c1 ⟨_, rfl, m, be⟩
     replace o := (((((((o.tr j).trans (i.below e)).trans (h.below e)).tr f).tr p).tr q).tr ae).tr aq
     replace m := m.base o.size
     replace b := zC (zC (zC (zC (zC (zC b f) p) q) ae) aq) be
     refine zr (pt z 1) (z1 1 (U8 2) [(I6 no), (U8 2), (S []), l, (S ((cutF s).2))] b ?_)
     intro dk a5
     replace m := m.wrote a5 (m.ne b zi)
     replace b := a5.here
     refine zr (pt z 2) (z1 2 (S ((Lib.cut (List.drop 1 (trmF ((Lib.cut s ([35] : List UInt8)).1))) ([58] : List UInt8)).1)) [(I6 no), (U8 2), (S ((Lib.cut (List.drop 1 (trmF ((Lib.cut s ([35] : List UInt8)).1))) ([58] : List UInt8)).1)), l, (S ((cutF s).2))] b ?_)
     intro c0 a4
     replace m := m.wrote a4 (m.ne b zi)
     replace b := a4.here
     refine zr (pt z 3) (wF z 3 ay [(I6 no), (U8 2), (S ((Lib.cut (List.drop 1 (trmF ((Lib.cut s ([35] : List UInt8)).1))) ([58] : List UInt8)).1)), l, (S ((cutF s).2))] [(I6 no), (U8 2), (S ((Lib.cut (List.drop 1 (trmF ((Lib.cut s ([35] : List UInt8)).1))) ([58] : List UInt8)).1)), ay, (S ((cutF s).2))] 90 zk zk m.one zk b zi rfl ?_)
     intro dj a3
     replace m := m.wrote a3 (m.ne b zi)
     replace b := a3.here
     replace c := zG (zG (zG (zC (zC (zC (zC (zC (zC (zG (zG (zC (zG (zC c u.below) y a) j) i a) h a) f) p) q) ae) aq) be) a5 a) a4 a) a3 a
     refine zS (zJ (zD (wR (zOW b (wL b1 0 [(I6 no), (U8 2), (S ((Lib.cut (List.drop 1 (trmF ((Lib.cut s ([35] : List UInt8)).1))) ([58] : List UInt8)).1)), ay, (S ((cutF s).2))] [(I6 0), (U8 0), (S []), (.slice none 0 0), (S [])] [(I6 no), (U8 2), (S ((Lib.cut (List.drop 1 (trmF ((Lib.cut s ([35] : List UInt8)).1))) ([58] : List UInt8)).1)), ay, (S ((cutF s).2))] 90 zk zk (xP rfl (xP rfl (xP rfl (xP m.one (xP rfl rfl))))) zk c zk rfl ?_)))))
     intro cf bc
     replace m := m.wrote bc (m.ne c zi)
     replace c := bc.here
     refine zI (nQ (zW (xF [.cell 4 90, .tmp 5] [(Value.agg #[(I6 no), (U8 2), (S ((Lib.cut (List.drop 1 (trmF ((Lib.cut s ([35] : List UInt8)).1))) ([58] : List UInt8)).1)), ay, (S ((cutF s).2))]), (I6 0)] rfl rfl ⟨⟨⟨b1, 0, none⟩, zk, xA [(I6 no), (U8 2), (S ((Lib.cut (List.drop 1 (trmF ((Lib.cut s ([35] : List UInt8)).1))) ([58] : List UInt8)).1)), ay, (S ((cutF s).2))] zk zk (yV c)⟩, zk, trivial⟩ ?_)))
     replace o := ((((o.tr be).trans (a5.below e)).trans (a4.below e)).trans (a3.below e)).trans (bc.below aa)
     exact ⟨ay, xO (by (rw [scan_order za za za za]; try rfl; done)) (e6 (by (rw [scan_order za za za za]; try rfl; done))), m.cast (by (rw [scan_order za za za za]; try rfl; done)), o⟩
    intro cp
    replace c := zC (zC (zC (zC (zC (zG (zG (zC (zG (zC c u.below) y a) j) i a) h a) f) p) q) ae) aq
    refine zw (znt false (wM (nQ (zT (wR (zr (Value.agg #[(I6 0), (U8 0), (S []), (.slice none 0 0), (S [])]) (zAW [(I6 0), (U8 0), (S []), (.slice none 0 0), (S [])] c ?_)))))))
    intro dd bj
    replace c := bj.here
    refine zI (nQ (zW (zK (zR (zK (xF [.cell 4 90, .tmp 5] [(Value.agg #[(I6 0), (U8 0), (S []), (.slice none 0 0), (S [])]), (I6 33)] rfl rfl ⟨⟨⟨b1, 0, none⟩, zk, xA [(I6 0), (U8 0), (S []), (.slice none 0 0), (S [])] zk zk (yV c)⟩, zk, trivial⟩ ?_))))))
    replace o := ((((((((o.tr j).trans (i.below e)).trans (h.below e)).tr f).tr p).tr q).tr ae).tr aq).trans (bj.below aa)
    exact ⟨(.slice none 0 0), xO (by (rw [xH za za (.inr za)]; try rfl; done)) (e6 (by (rw [xH za za (.inr za)]; try rfl; done))), (Row.nil _ _ _ _ _).cast (by (rw [xH za za (.inr za)]; try rfl; done)), o⟩
   intro cn
   replace c := zC (zC (zC (zC (zG (zG (zC (zG (zC c u.below) y a) j) i a) h a) f) p) q) ae
   refine zI (zI (zI (nW (wR (zH (znt false (zH (zs (zs (zs (wB (nQ (zT (wR (zr (Value.agg #[(I6 0), (U8 0), (S []), (.slice none 0 0), (S [])]) (zAW [(I6 0), (U8 0), (S []), (.slice none 0 0), (S [])] c ?_))))))))))))))))
   intro cm bi
   replace c := bi.here
   refine zI (nQ (zW (zK (zR (zK (xF [.cell 4 90, .tmp 5] [(Value.agg #[(I6 0), (U8 0), (S []), (.slice none 0 0), (S [])]), (I6 33)] rfl rfl ⟨⟨⟨b1, 0, none⟩, zk, xA [(I6 0), (U8 0), (S []), (.slice none 0 0), (S [])] zk zk (yV c)⟩, zk, trivial⟩ ?_))))))
   replace o := (((((((o.tr j).trans (i.below e)).trans (h.below e)).tr f).tr p).tr q).tr ae).trans (bi.below aa)
   exact ⟨(.slice none 0 0), xO (by (rw [xH za za (.inl za)]; try rfl; done)) (e6 (by (rw [xH za za (.inl za)]; try rfl; done))), (Row.nil _ _ _ _ _).cast (by (rw [xH za za (.inl za)]; try rfl; done)), o⟩
  intro c2
  refine zI (nQ (zF (wR (zH (L_sne (trmF ((Lib.cut s ([35] : List UInt8)).1)) ([] : List UInt8) rfl zk zk ?_ ?_)))))
  ·intro de
   replace b := zC (zC (zC b f) p) q
   refine zI (nQ (zT (zV (zr (pt z 1) (z1 1 (U8 1) [(I6 no), (U8 1), (S []), l, (S ((cutF s).2))] b ?_)))))
   intro c5 a1
   replace d := ((d.below f).below p).below q
   replace d := d.wrote a1 (d.ne b zi)
   replace b := a1.here
   replace c := zG (zC (zC (zC (zG (zG (zC (zG (zC c u.below) y a) j) i a) h a) f) p) q) a1 a
   refine zS (zJ (zD (wR (zOW b (wL b1 0 [(I6 no), (U8 1), (S []), l, (S ((cutF s).2))] [(I6 0), (U8 0), (S []), (.slice none 0 0), (S [])] [(I6 no), (U8 1), (S []), l, (S ((cutF s).2))] 90 zk zk (xP rfl (xP rfl (xP rfl (xP d.one (xP rfl rfl))))) zk c zk rfl ?_)))))
   intro cj bd
   replace d := d.wrote bd (d.ne c zi)
   replace c := bd.here
   refine zI (nQ (zW (xF [.cell 4 90, .tmp 5] [(Value.agg #[(I6 no), (U8 1), (S []), l, (S ((cutF s).2))]), (I6 0)] rfl rfl ⟨⟨⟨b1, 0, none⟩, zk, xA [(I6 no), (U8 1), (S []), l, (S ((cutF s).2))] zk zk (yV c)⟩, zk, trivial⟩ ?_)))
   replace o := (((((((o.tr j).trans (i.below e)).trans (h.below e)).tr f).tr p).tr q).trans (a1.below e)).trans (bd.below aa)
   exact ⟨l, xO (by (rw [scan_data za za za]; try rfl; done)) (e6 (by (rw [scan_data za za za]; try rfl; done))), d.cast (by (rw [scan_data za za za]; try rfl; done)), o⟩
  intro c7
  replace b := zC (zC (zC b f) p) q
  refine zI (nQ (zF (wR (zFO 4 b rfl (zc (xK ((cutF s).2) ([64, 109, 105, 115, 115, 105, 110, 103, 58] : List UInt8) _ ) ?_)))))
  rintro _ ce ⟨rfl, ad⟩
  refine yK (hpB ((cutF s).2) ([64, 109, 105, 115, 115, 105, 110, 103, 58] : List UInt8)) ?_ ?_
  ·intro bn
   have := hp_len bn; simp only [List.length_cons, List.length_nil] at this
   replace b := zC b ad
   refine zI (nQ (zT (wR (zr (pt z 1) (z1 1 (U8 3) [(I6 no), (U8 3), (S []), l, (S ((cutF s).2))] b ?_)))))
   intro di a9
   replace b := a9.here
   refine nQ (zV (zFO 4 b rfl (L_ssfrom ((cutF s).2) 9 underlying9 zk ⟨.i64, zk⟩ zo (zc (c_lines_Cut (List.drop 9 ((cutF s).2)) _ (by (simp only [List.length_drop, List.length_take] at *; omega))) ?_))))
   rintro _ cv ⟨aj, rfl, n, ba⟩
   replace o := (((((((o.tr j).trans (i.below e)).trans (h.below e)).tr f).tr p).tr q).tr ad).trans (a9.below e)
   replace n := n.base o.size
   replace b := zC b ba
   refine zH (zr aj (zr (S ((cutF (List.drop 9 ((cutF s).2))).2)) (zr (pt z 3) (wF z 3 aj [(I6 no), (U8 3), (S []), l, (S ((cutF s).2))] [(I6 no), (U8 3), (S []), aj, (S ((cutF s).2))] 90 zk zk n.one zk b zi rfl ?_))))
   intro ci a2
   replace n := n.wrote a2 (n.ne b zi)
   replace b := a2.here
   refine zr (pt z 4) (z1 4 (S ((cutF (List.drop 9 ((cutF s).2))).2)) [(I6 no), (U8 3), (S []), aj, (S ((cutF (List.drop 9 ((cutF s).2))).2))] b ?_)
   intro cz a6
   replace n := n.wrote a6 (n.ne b zi)
   replace b := a6.here
   replace c := zG (zG (zC (zG (zC (zC (zC (zC (zG (zG (zC (zG (zC c u.below) y a) j) i a) h a) f) p) q) ad) a9 a) ba) a2 a) a6 a
   refine zS (zJ (zD (wR (zOW b (wL b1 0 [(I6 no), (U8 3), (S []), aj, (S ((cutF (List.drop 9 ((cutF s).2))).2))] [(I6 0), (U8 0), (S []), (.slice none 0 0), (S [])] [(I6 no), (U8 3), (S []), aj, (S ((cutF (List.drop 9 ((cutF s).2))).2))] 90 zk zk (xP rfl (xP rfl (xP rfl (xP n.one (xP rfl rfl))))) zk c zk rfl ?_)))))
   intro co a8
   replace n := n.wrote a8 (n.ne c zi)
   replace c := a8.here
   refine zI (nQ (zW (xF [.cell 4 90, .tmp 5] [(Value.agg #[(I6 no), (U8 3), (S []), aj, (S ((cutF (List.drop 9 ((cutF s).2))).2))]), (I6 0)] rfl rfl ⟨⟨⟨b1, 0, none⟩, zk, xA [(I6 no), (U8 3), (S []), aj, (S ((cutF (List.drop 9 ((cutF s).2))).2))] zk zk (yV c)⟩, zk, trivial⟩ ?_)))
   replace o := (((o.tr ba).trans (a2.below e)).trans (a6.below e)).trans (a8.below aa)
   exact ⟨aj, xO (by (rw [scan_miss za za za]; try rfl; done)) (e6 (by (rw [scan_miss za za za]; try rfl; done))), n.cast (by (rw [scan_miss za za za]; try rfl; done)), o⟩
  intro cx
  replace c := zC (zC (zC (zC (zG (zG (zC (zG (zC c u.below) y a) j) i a) h a) f) p) q) ad
  replace b := zC b ad
  replace d := (((d.below f).below p).below q).below ad
  refine zI (nQ (zF (zP (zJ (zD (wR (zOW b (wL b1 0 [(I6 no), (U8 0), (S []), l, (S ((cutF s).2))] [(I6 0), (U8 0), (S []), (.slice none 0 0), (S [])] [(I6 no), (U8 0), (S []), l, (S ((cutF s).2))] 90 zk zk (xP rfl (xP rfl (xP rfl (xP d.one (xP rfl rfl))))) zk c zk rfl ?_))))))))
  intro dh bf
  replace d := d.wrote bf (d.ne c zi)
  replace c := bf.here
  refine zI (nQ (zW (xF [.cell 4 90, .tmp 5] [(Value.agg #[(I6 no), (U8 0), (S []), l, (S ((cutF s).2))]), (I6 0)] rfl rfl ⟨⟨⟨b1, 0, none⟩, zk, xA [(I6 no), (U8 0), (S []), l, (S ((cutF s).2))] zk zk (yV c)⟩, zk, trivial⟩ ?_)))
  replace o := (((((((o.tr j).trans (i.below e)).trans (h.below e)).tr f).tr p).tr q).tr ad).trans (bf.below aa)
  exact ⟨l, xO (by (rw [scan_blank za za za]; try rfl; done)) (e6 (by (rw [scan_blank za za za]; try rfl; done))), d.cast (by (rw [scan_blank za za za]; try rfl; done)), o⟩
 intro ck
 refine zI (zI (zI (nR (zH (zc (wN ((Lib.cut s ([35] : List UInt8)).1) _ zo) ?_)))))
 rintro _ ch ⟨rfl, r⟩
 have := trm_len ((Lib.cut s ([35] : List UInt8)).1)
 refine zI (nW (zY (wR (zH (zc (xK (trmF ((Lib.cut s ([35] : List UInt8)).1)) ([64] : List UInt8) _ ) ?_)))))
 rintro _ cq ⟨rfl, t⟩
 refine yK (hpB (trmF ((Lib.cut s ([35] : List UInt8)).1)) ([64] : List UInt8)) ?_ ?_
 ·intro bo
  have := hp_len bo; simp only [List.length_cons, List.length_nil] at this
  refine zI (nQ (zT (wR (zH (L_ssfrom (trmF ((Lib.cut s ([35] : List UInt8)).1)) 1 underlying9 zk ⟨.i64, zk⟩ zo (zc (c_strings_Cut (List.drop 1 (trmF ((Lib.cut s ([35] : List UInt8)).1))) ([58] : List UInt8) _ (by rfl) (by (simp only [List.length_drop, List.length_take] at *; omega))) ?_))))))
  rintro _ cw ⟨rfl, ag⟩
  have := wC (List.drop 1 (trmF ((Lib.cut s ([35] : List UInt8)).1))) ([58] : List UInt8)
  refine zH (zr (S ((Lib.cut (List.drop 1 (trmF ((Lib.cut s ([35] : List UInt8)).1))) ([58] : List UInt8)).1)) (zr (S ((Lib.cut (List.drop 1 (trmF ((Lib.cut s ([35] : List UInt8)).1))) ([58] : List UInt8)).2.1)) (zr (.bool ((Lib.cut (List.drop 1 (trmF ((Lib.cut s ([35] : List UInt8)).1))) ([58] : List UInt8)).2.2)) (yK ((Lib.cut (List.drop 1 (trmF ((Lib.cut s ([35] : List UInt8)).1))) ([58] : List UInt8)).2.2) ?_ ?_))))
  ·intro db
   refine zI (zI (zI (nW (wR (zH (znt true (zH (zw (zH (zw (zc (c_lines_named ((Lib.cut (List.drop 1 (trmF ((Lib.cut s ([35] : List UInt8)).1))) ([58] : List UInt8)).1) _ (by (simp only [List.length_drop, List.length_take] at *; omega))) ?_)))))))))))
   rintro _ cy ⟨rfl, af⟩
   refine yK (nameF ((Lib.cut (List.drop 1 (trmF ((Lib.cut s ([35] : List UInt8)).1))) ([58] : List UInt8)).1)) ?_ ?_
   ·intro cb
    refine zw (znt true (wM (nQ (zF (zP (zD (zV (zH (zH (zc (c_lines_fields ((Lib.cut (List.drop 1 (trmF ((Lib.cut s ([35] : List UInt8)).1))) ([58] : List UInt8)).2.1) _ (by (simp only [List.length_drop, List.length_take] at *; omega))) ?_))))))))))
    rintro ah b3 ⟨_, rfl, g, ar⟩
    replace o := (((((((o.tr j).trans (i.below e)).trans (h.below e)).tr f).tr r).tr t).tr ag).tr af
    replace g := g.base o.size
    replace b := zC (zC (zC (zC (zC (zC b f) r) t) ag) af) ar
    refine zr (pt z 1) (z1 1 (U8 2) [(I6 no), (U8 2), (S []), l, (S ((cutF s).2))] b ?_)
    intro bx ak
    replace g := g.wrote ak (g.ne b zi)
    replace b := ak.here
    refine zr (pt z 2) (z1 2 (S ((Lib.cut (List.drop 1 (trmF ((Lib.cut s ([35] : List UInt8)).1))) ([58] : List UInt8)).1)) [(I6 no), (U8 2), (S ((Lib.cut (List.drop 1 (trmF ((Lib.cut s ([35] : List UInt8)).1))) ([58] : List UInt8)).1)), l, (S ((cutF s).2))] b ?_)
    intro bw ap
    replace g := g.wrote ap (g.ne b zi)
    replace b := ap.here
    refine zr (pt z 3) (wF z 3 ah [(I6 no), (U8 2), (S ((Lib.cut (List.drop 1 (trmF ((Lib.cut s ([35] : List UInt8)).1))) ([58] : List UInt8)).1)), l, (S ((cutF s).2))] [(I6 no), (U8 2), (S ((Lib.cut (List.drop 1 (trmF ((Lib.cut s ([35] : List UInt8)).1))) ([58] : List UInt8)).1)), ah, (S ((cutF s).2))] 90 zk zk g.one zk b zi rfl ?_)
    intro bq al
    replace g := g.wrote al (g.ne b zi)
    replace b := al.here
    replace c := zG (zG (zG (zC (zC (zC (zC (zC (zC (zG (zG (zC (zG (zC c u.below) y a) j) i a) h a) f) r) t) ag) af) ar) ak a) ap a) al a
    refine zS (zJ (zD (wR (zOW b (wL b1 0 [(I6 no), (U8 2), (S ((Lib.cut (List.drop 1 (trmF ((Lib.cut s ([35] : List UInt8)).1))) ([58] : List UInt8)).1)), ah, (S ((cutF s).2))] [(I6 0), (U8 0), (S []), (.slice none 0 0), (S [])] [(I6 no), (U8 2), (S ((Lib.cut (List.drop 1 (trmF ((Lib.cut s ([35] : List UInt8)).1))) ([58] : List UInt8)).1)), ah, (S ((cutF s).2))] 90 zk zk (xP rfl (xP rfl (xP rfl (xP g.one (xP rfl rfl))))) zk c zk rfl ?_)))))
    intro cd aw
    replace g := g.wrote aw (g.ne c zi)
    replace c := aw.here
    refine zI (nQ (zW (xF [.cell 4 90, .tmp 5] [(Value.agg #[(I6 no), (U8 2), (S ((Lib.cut (List.drop 1 (trmF ((Lib.cut s ([35] : List UInt8)).1))) ([58] : List UInt8)).1)), ah, (S ((cutF s).2))]), (I6 0)] rfl rfl ⟨⟨⟨b1, 0, none⟩, zk, xA [(I6 no), (U8 2), (S ((Lib.cut (List.drop 1 (trmF ((Lib.cut s ([35] : List UInt8)).1))) ([58] : List UInt8)).1)), ah, (S ((cutF s).2))] zk zk (yV c)⟩, zk, trivial⟩ ?_)))
    replace o := ((((o.tr ar).trans (ak.below e)).trans (ap.below e)).trans (al.below e)).trans (aw.below aa)
    exact ⟨ah, xO (by (rw [scan_order za za za za]; try rfl; done)) (e6 (by (rw [scan_order za za za za]; try rfl; done))), g.cast (by (rw [scan_order za za za za]; try rfl; done)), o⟩
   intro bv
   replace c := zC (zC (zC (zC (zC (zG (zG (zC (zG (zC c u.below) y a) j) i a) h a) f) r) t) ag) af
   refine zw (znt false (wM (nQ (zT (wR (zr (Value.agg #[(I6 0), (U8 0), (S []), (.slice none 0 0), (S [])]) (zAW [(I6 0), (U8 0), (S []), (.slice none 0 0), (S [])] c ?_)))))))
   intro b7 a7
   replace c := a7.here
   refine zI (nQ (zW (zK (zR (zK (xF [.cell 4 90, .tmp 5] [(Value.agg #[(I6 0), (U8 0), (S []), (.slice none 0 0), (S [])]), (I6 33)] rfl rfl ⟨⟨⟨b1, 0, none⟩, zk, xA [(I6 0), (U8 0), (S []), (.slice none 0 0), (S [])] zk zk (yV c)⟩, zk, trivial⟩ ?_))))))
   replace o := ((((((((o.tr j).trans (i.below e)).trans (h.below e)).tr f).tr r).tr t).tr ag).tr af).trans (a7.below aa)
   exact ⟨(.slice none 0 0), xO (by (rw [xH za za (.inr za)]; try rfl; done)) (e6 (by (rw [xH za za (.inr za)]; try rfl; done))), (Row.nil _ _ _ _ _).cast (by (rw [xH za za (.inr za)]; try rfl; done)), o⟩
  intro br
  replace c := zC (zC (zC (zC (zG (zG (zC (zG (zC c u.below) y a) j) i a) h a) f) r) t) ag
  refine zI (zI (zI (nW (wR (zH (znt false (zH (zs (zs (zs (wB (nQ (zT (wR (zr (Value.agg #[(I6 0), (U8 0), (S []), (.slice none 0 0), (S [])]) (zAW [(I6 0), (U8 0), (S []), (.slice none 0 0), (S [])] c ?_))))))))))))))))
  intro b0 bb
  replace c := bb.here
  refine zI (nQ (zW (zK (zR (zK (xF [.cell 4 90, .tmp 5] [(Value.agg #[(I6 0), (U8 0), (S []), (.slice none 0 0), (S [])]), (I6 33)] rfl rfl ⟨⟨⟨b1, 0, none⟩, zk, xA [(I6 0), (U8 0), (S []), (.slice none 0 0), (S [])] zk zk (yV c)⟩, zk, trivial⟩ ?_))))))
  replace o := (((((((o.tr j).trans (i.below e)).trans (h.below e)).tr f).tr r).tr t).tr ag).trans (bb.below aa)
  exact ⟨(.slice none 0 0), xO (by (rw [xH za za (.inl za)]; try rfl; done)) (e6 (by (rw [xH za za (.inl za)]; try rfl; done))), (Row.nil _ _ _ _ _).cast (by (rw [xH za za (.inl za)]; try rfl; done)), o⟩
 intro bp
 refine zI (nQ (zF (wR (zH (L_sne (trmF ((Lib.cut s ([35] : List UInt8)).1)) ([] : List UInt8) rfl zk zk ?_ ?_)))))
 ·intro ca
  replace b := zC (zC (zC b f) r) t
  refine zI (nQ (zT (zV (zr (pt z 1) (z1 1 (U8 1) [(I6 no), (U8 1), (S []), l, (S ((cutF s).2))] b ?_)))))
  intro b9 ao
  replace d := ((d.below f).below r).below t
  replace d := d.wrote ao (d.ne b zi)
  replace b := ao.here
  replace c := zG (zC (zC (zC (zG (zG (zC (zG (zC c u.below) y a) j) i a) h a) f) r) t) ao a
  refine zS (zJ (zD (wR (zOW b (wL b1 0 [(I6 no), (U8 1), (S []), l, (S ((cutF s).2))] [(I6 0), (U8 0), (S []), (.slice none 0 0), (S [])] [(I6 no), (U8 1), (S []), l, (S ((cutF s).2))] 90 zk zk (xP rfl (xP rfl (xP rfl (xP d.one (xP rfl rfl))))) zk c zk rfl ?_)))))
  intro b5 av
  replace d := d.wrote av (d.ne c zi)
  replace c := av.here
  refine zI (nQ (zW (xF [.cell 4 90, .tmp 5] [(Value.agg #[(I6 no), (U8 1), (S []), l, (S ((cutF s).2))]), (I6 0)] rfl rfl ⟨⟨⟨b1, 0, none⟩, zk, xA [(I6 no), (U8 1), (S []), l, (S ((cutF s).2))] zk zk (yV c)⟩, zk, trivial⟩ ?_)))
  replace o := (((((((o.tr j).trans (i.below e)).trans (h.below e)).tr f).tr r).tr t).trans (ao.below e)).trans (av.below aa)
  exact ⟨l, xO (by (rw [scan_data za za za]; try rfl; done)) (e6 (by (rw [scan_data za za za]; try rfl; done))), d.cast (by (rw [scan_data za za za]; try rfl; done)), o⟩
 intro b6
 replace b := zC (zC (zC b f) r) t
 refine zI (nQ (zF (wR (zFO 4 b rfl (zc (xK ((cutF s).2) ([64, 109, 105, 115, 115, 105, 110, 103, 58] : List UInt8) _ ) ?_)))))
 rintro _ b2 ⟨rfl, ab⟩
 refine yK (hpB ((cutF s).2) ([64, 109, 105, 115, 115, 105, 110, 103, 58] : List UInt8)) ?_ ?_
 ·intro bk
  have := hp_len bk; simp only [List.length_cons, List.length_nil] at this
  replace b := zC b ab
  refine zI (nQ (zT (wR (zr (pt z 1) (z1 1 (U8 3) [(I6 no), (U8 3), (S []), l, (S ((cutF s).2))] b ?_)))))
  intro b8 ax
  replace b := ax.here
  refine nQ (zV (zFO 4 b rfl (L_ssfrom ((cutF s).2) 9 underlying9 zk ⟨.i64, zk⟩ zo (zc (c_lines_Cut (List.drop 9 ((cutF s).2)) _ (by (simp only [List.length_drop, List.length_take] at *; omega))) ?_))))
  rintro _ bs ⟨ac, rfl, k, a0⟩
  replace o := (((((((o.tr j).trans (i.below e)).trans (h.below e)).tr f).tr r).tr t).tr ab).trans (ax.below e)
  replace k := k.base o.size
  replace b := zC b a0
  refine zH (zr ac (zr (S ((cutF (List.drop 9 ((cutF s).2))).2)) (zr (pt z 3) (wF z 3 ac [(I6 no), (U8 3), (S []), l, (S ((cutF s).2))] [(I6 no), (U8 3), (S []), ac, (S ((cutF s).2))] 90 zk zk k.one zk b zi rfl ?_))))
  intro bu an
  replace k := k.wrote an (k.ne b zi)
  replace b := an.here
  refine zr (pt z 4) (z1 4 (S ((cutF (List.drop 9 ((cutF s).2))).2)) [(I6 no), (U8 3), (S []), ac, (S ((cutF (List.drop 9 ((cutF s).2))).2))] b ?_)
  intro cc am
  replace k := k.wrote am (k.ne b zi)
  replace b := am.here
  replace c := zG (zG (zC (zG (zC (zC (zC (zC (zG (zG (zC (zG (zC c u.below) y a) j) i a) h a) f) r) t) ab) ax a) a0) an a) am a
  refine zS (zJ (zD (wR (zOW b (wL b1 0 [(I6 no), (U8 3), (S []), ac, (S ((cutF (List.drop 9 ((cutF s).2))).2))] [(I6 0), (U8 0), (S []), (.slice none 0 0), (S [])] [(I6 no), (U8 3), (S []), ac, (S ((cutF (List.drop 9 ((cutF s).2))).2))] 90 zk zk (xP rfl (xP rfl (xP rfl (xP k.one (xP rfl rfl))))) zk c zk rfl ?_)))))
  intro bt az
  replace k := k.wrote az (k.ne c zi)
  replace c := az.here
  refine zI (nQ (zW (xF [.cell 4 90, .tmp 5] [(Value.agg #[(I6 no), (U8 3), (S []), ac, (S ((cutF (List.drop 9 ((cutF s).2))).2))]), (I6 0)] rfl rfl ⟨⟨⟨b1, 0, none⟩, zk, xA [(I6 no), (U8 3), (S []), ac, (S ((cutF (List.drop 9 ((cutF s).2))).2))] zk zk (yV c)⟩, zk, trivial⟩ ?_)))
  replace o := (((o.tr a0).trans (an.below e)).trans (am.below e)).trans (az.below aa)
  exact ⟨ac, xO (by (rw [scan_miss za za za]; try rfl; done)) (e6 (by (rw [scan_miss za za za]; try rfl; done))), k.cast (by (rw [scan_miss za za za]; try rfl; done)), o⟩
 intro bz
 replace c := zC (zC (zC (zC (zG (zG (zC (zG (zC c u.below) y a) j) i a) h a) f) r) t) ab
 replace b := zC b ab
 replace d := (((d.below f).below r).below t).below ab
 refine zI (nQ (zF (zP (zJ (zD (wR (zOW b (wL b1 0 [(I6 no), (U8 0), (S []), l, (S ((cutF s).2))] [(I6 0), (U8 0), (S []), (.slice none 0 0), (S [])] [(I6 no), (U8 0), (S []), l, (S ((cutF s).2))] 90 zk zk (xP rfl (xP rfl (xP rfl (xP d.one (xP rfl rfl))))) zk c zk rfl ?_))))))))
 intro b4 au
 replace d := d.wrote au (d.ne c zi)
 replace c := au.here
 refine zI (nQ (zW (xF [.cell 4 90, .tmp 5] [(Value.agg #[(I6 no), (U8 0), (S []), l, (S ((cutF s).2))]), (I6 0)] rfl rfl ⟨⟨⟨b1, 0, none⟩, zk, xA [(I6 no), (U8 0), (S []), l, (S ((cutF s).2))] zk zk (yV c)⟩, zk, trivial⟩ ?_)))
 replace o := (((((((o.tr j).trans (i.below e)).trans (h.below e)).tr f).tr r).tr t).tr ab).trans (au.below aa)
 exact ⟨l, xO (by (rw [scan_blank za za za]; try rfl; done)) (e6 (by (rw [scan_blank za za za]; try rfl; done))), d.cast (by (rw [scan_blank za za za]; try rfl; done)), o⟩
end Go.Proofs.YtddnhlobnembaaaGreatDoor
end

/- === Wlread === -/
section
/- Walks, written by my program walk.py out of the specification lread.py: each theorem says what one function returns and that it leaves memory as it was. -/
namespace Go.Proofs.YtddnhlobnembaaaGreatDoor
open Go Go.RowKit Go.FK
end Go.Proofs.YtddnhlobnembaaaGreatDoor
end

/- === Wccor === -/
section
/- Walks, written by my program walk.py out of the specification ccor.py: each theorem says what one function returns and that it leaves memory as it was. -/
namespace Go.Proofs.YtddnhlobnembaaaGreatDoor
open Go Go.RowKit Go.FK _root_.Go.Proofs.Tryz
set_option maxHeartbeats 4000000
set_option maxRecDepth 100000
def laysRev_ren : Go.Shelf.Ren := ⟨fun | 35 => 77 | n => n, fun | 22 => 97 | 23 => 5 | n => n, fun | n => n⟩
theorem laysRev : Go.Proofs.SlLaysE.n35 Tryz.prog laysRev_ren := {
 mixed := by kernel_rfl
 f35 := ⟨Tryz.f77.name, zk, func77.trans (congrArg some zk)⟩
 t0 := underlying0
 a0 := Tryz.isAgg0
 z0 := Tryz.sizeOf0
 v0 := Tryz.zeroValue0
 t3 := underlying3
 a3 := Tryz.isAgg3
 z3 := Tryz.sizeOf3
 v3 := Tryz.zeroValue3
 t4 := underlying4
 a4 := Tryz.isAgg4
 z4 := Tryz.sizeOf4
 v4 := Tryz.zeroValue4
 t22 := underlying97
 a22 := Tryz.isAgg97
 z22 := Tryz.sizeOf97
 v22 := Tryz.zeroValue97
 a23 := Tryz.isAgg5
 z23 := Tryz.sizeOf5 }
theorem yN : Elem Tryz.prog 23 21 1 4 := ⟨underlying23, zk, rfl⟩
theorem el97 : Elem Tryz.prog 97 5 1 1 := ⟨underlying97, zk, rfl⟩
theorem c_words_Blank (r : Int) (w : World) :
  Calls Tryz.prog 147 #[(I3 r)] w (Ret fun v w' => v = (.bool (blankB r)) ∧ Below w.heap.size w w') := by
 refine wG 23 func147 rfl ?_
 have a := Below.refl w.heap.size w
 refine wR (zI (nW (wR (zH (nQ (zY (yA (wR (zEq .i32 r 9 ?_ ?_)))))))))
 ·intro h1
  exact zI (nQ (zT (zP (zD (zT (wR (zI (nQ (zW (zR (zK (yF [(.bool true)] ⟨eb (by simp only [blankB]; simp [*] <;> omega), a⟩))))))))))))
 intro z
 refine zI (nQ (zF (wR (zEq .i32 r 11 ?_ ?_))))
 ·intro y
  exact zI (nQ (zT (zP (zD (zT (wR (zI (nQ (zW (zR (zK (yF [(.bool true)] ⟨eb (by simp only [blankB]; simp [*] <;> omega), a⟩))))))))))))
 intro h4
 refine zI (nQ (zF (wR (zEq .i32 r 12 ?_ ?_))))
 ·intro h5
  exact zI (nQ (zT (zP (zD (zT (wR (zI (nQ (zW (zR (zK (yF [(.bool true)] ⟨eb (by simp only [blankB]; simp [*] <;> omega), a⟩))))))))))))
 intro h6
 refine zI (nQ (zF (wR (zEq .i32 r 32 ?_ ?_))))
 ·intro h7
  exact zI (nQ (zT (zP (zD (zT (wR (zI (nQ (zW (zR (zK (yF [(.bool true)] ⟨eb (by simp only [blankB]; simp [*] <;> omega), a⟩))))))))))))
 intro h8
 refine zI (nQ (zF (wR (zEq .i32 r 133 ?_ ?_))))
 ·intro h9
  exact zI (nQ (zT (zP (zD (zT (wR (zI (nQ (zW (zR (zK (yF [(.bool true)] ⟨eb (by simp only [blankB]; simp [*] <;> omega), a⟩))))))))))))
 intro m
 refine zI (nQ (zF (wR (zEq .i32 r 160 ?_ ?_))))
 ·intro s
  exact zI (nQ (zT (zP (zD (zT (wR (zI (nQ (zW (zR (zK (yF [(.bool true)] ⟨eb (by simp only [blankB]; simp [*] <;> omega), a⟩))))))))))))
 intro f
 refine zI (nQ (zF (wR (zEq .i32 r 5760 ?_ ?_))))
 ·intro j
  exact zI (nQ (zT (zP (zD (zT (wR (zI (nQ (zW (zR (zK (yF [(.bool true)] ⟨eb (by simp only [blankB]; simp [*] <;> omega), a⟩))))))))))))
 intro k
 refine zI (nQ (zF (wR (zEq .i32 r 8232 ?_ ?_))))
 ·intro d
  exact zI (nQ (zT (zP (zD (zT (wR (zI (nQ (zW (zR (zK (yF [(.bool true)] ⟨eb (by simp only [blankB]; simp [*] <;> omega), a⟩))))))))))))
 intro h
 refine zI (nQ (zF (wR (zEq .i32 r 8233 ?_ ?_))))
 ·intro t
  exact zI (nQ (zT (zP (zD (zT (wR (zI (nQ (zW (zR (zK (yF [(.bool true)] ⟨eb (by simp only [blankB]; simp [*] <;> omega), a⟩))))))))))))
 intro b
 refine zI (nQ (zF (wR (zEq .i32 r 8239 ?_ ?_))))
 ·intro g
  exact zI (nQ (zT (zP (zD (zT (wR (zI (nQ (zW (zR (zK (yF [(.bool true)] ⟨eb (by simp only [blankB]; simp [*] <;> omega), a⟩))))))))))))
 intro c
 refine zI (nQ (zF (wR (zEq .i32 r 8287 ?_ ?_))))
 ·intro n
  exact zI (nQ (zT (zP (zD (zT (wR (zI (nQ (zW (zR (zK (yF [(.bool true)] ⟨eb (by simp only [blankB]; simp [*] <;> omega), a⟩))))))))))))
 intro l
 refine zI (nQ (zF (zV (zEq .i32 r 12288 ?_ ?_))))
 ·intro p
  exact zI (nQ (zT (wR (zI (nQ (zW (zR (zK (yF [(.bool true)] ⟨eb (by simp only [blankB]; simp [*] <;> omega), a⟩)))))))))
 intro u
 refine zI (nQ (zF (zP (zJ (zD (wR (zH (zGe .i32 r 8192 ?_ ?_))))))))
 ·intro o
  refine zH (zw (zH (zw (zLe .i32 r 8202 ?_ ?_))))
  ·intro q
   exact wB (zI (nQ (zW (yF [(.bool true)] ⟨eb (by simp only [blankB]; simp [*] <;> omega), a⟩))))
  intro e
  exact wB (zI (nQ (zW (yF [(.bool false)] ⟨eb (by simp only [blankB]; simp [*] <;> omega), a⟩))))
 intro i
 exact zH (zs (zs (wM (zI (nQ (zW (yF [(.bool false)] ⟨eb (by simp only [blankB]; simp [*] <;> omega), a⟩)))))))
theorem c_utf_Encode (a : Value) (l : List (Int)) (w : World) (b : Rd w encI32 a l) :
  Calls Tryz.prog 148 #[a] w (Ret fun v w' => v = (S (encL l)) ∧ Below w.heap.size w w') := by
 refine wG 5 func148 rfl ?_
 have c := Below.refl w.heap.size w
 exact wR (zI (nR (zH (L_runesStr a l underlying23 underlying21 underlying9 zk b (zI (nQ (zW (yF [(S (encL l))] ⟨congrArg S (by first | rfl | (simp_all; done) | omega), c⟩))))))))
theorem c_words_Loose (s : List UInt8) (w : World) (hs : s.length ≤ 1073741824) :
  Calls Tryz.prog 124 #[(S s)] w (Ret fun v w' => v = (S (looseS s)) ∧ Below w.heap.size w w') := by
 refine wG 35 func124 rfl ?_
 have h := Below.refl w.heap.size w
 refine wR (zI (nR (zI (nW (wR (zH (L_range s underlying9 zk ?_)))))))
 intro b1 w2 u
 have j := u.ge h.size
 have a := u.here
 refine nQ (zY ?_)
 replace h := h.tr u.below
 refine xD (fun m s0 w0 => ∃ (pos : Nat) (i : List Int) (k : Value), (m = s.length - pos) ∧ (s0.ds = []) ∧ ([2, 7, 3].map s0.f = [(S []), (pt b1 0), k]) ∧ (Row w0 w.heap.size 21 1 encI32 k i) ∧ (w0.heap[b1]? = some (.stringIter ⟨(s).toArray⟩ pos)) ∧ (Below w.heap.size w w0) ∧ (pos ≤ s.length) ∧ (i.length ≤ pos) ∧ (i ++ looseL (runesFrom s pos) = looseL (runesFrom s 0))) _ ⟨0, [], (.slice none 0 0), rfl, zk, zk, Row.nil _ _ _ _ _, a, h, by omega, by simp, by simp⟩ ?_
 rintro m4 s5 w6 ⟨pos, i, k, hm, n, ah, c, a, h, i1, i2, t⟩
 refine yU ah (wR ?_)
 rcases Nat.lt_or_ge pos (s).length with g | o
 ·refine L_next s b1 pos zk a g ?_
  intro b w7 d l
  replace c := c.wrote l (c.ne a zi)
  replace a := l.here
  have := dec_pos s pos; have := dec_fits s pos g; have := dec_le s pos
  have z : 0 ≤ b := by omega
  have ab : b ≤ 2147483647 := by omega
  refine zr (.bool true) (nW (zT (zP (zD (zY (wR (zr (I3 b) (zI (nW (wR (zH (zc (c_words_Blank b _ ) ?_))))))))))))
  rintro _ w9 ⟨rfl, e⟩
  refine yK (blankB b) ?_ ?_
  ·intro aq
   refine zH (zs (zs (wB (zH (zs (zs (wB (nQ (zT (yR (zL (yD ?_))))))))))))
   replace h := (h.trans (l.below j)).tr e
   replace a := zC a e
   replace c := c.below e
   refine zD ⟨_, zo, (pos + (dec s pos).2), i, k, rfl, n, zk, c, a, h, zo, ?_, ?_⟩
   ·(try simp only [List.length_append, List.length_cons, List.length_nil]); omega
   rw [← t, xW g, ← d, wW]; clear d; simp [dropW, *]; try (unfold lowerI; split <;> omega)
  intro av
  refine zH (zw (zH (zw (zEq .i32 b 95 ?_ ?_))))
  ·intro ax
   refine wM (zH (zs (zs (wB (nQ (zT (yR (zL (yD ?_)))))))))
   replace h := (h.trans (l.below j)).tr e
   replace a := zC a e
   replace c := c.below e
   refine zD ⟨_, zo, (pos + (dec s pos).2), i, k, rfl, n, zk, c, a, h, zo, ?_, ?_⟩
   ·(try simp only [List.length_append, List.length_cons, List.length_nil]); omega
   rw [← t, xW g, ← d, wW]; clear d; simp [dropW, *]; try (unfold lowerI; split <;> omega)
  intro ao
  refine wM (zH (zw (zH (zw (zEq .i32 b 45 ?_ ?_)))))
  ·intro au
   refine wM (nQ (zT (yR (zL (yD ?_)))))
   replace h := (h.trans (l.below j)).tr e
   replace a := zC a e
   replace c := c.below e
   refine zD ⟨_, zo, (pos + (dec s pos).2), i, k, rfl, n, zk, c, a, h, zo, ?_, ?_⟩
   ·(try simp only [List.length_append, List.length_cons, List.length_nil]); omega
   rw [← t, xW g, ← d, wW]; clear d; simp [dropW, *]; try (unfold lowerI; split <;> omega)
  intro a0
  refine wM (nQ (zF (zP (zD (yA (wR (zH (zGe .i32 b 65 ?_ ?_))))))))
  ·intro am
   refine zH (zw (zH (zw (zLe .i32 b 90 ?_ ?_))))
   ·intro ar
    replace h := (h.trans (l.below j)).tr e
    replace c := c.below e
    refine wB (nQ (zT (zV (zH (xM b 32 (b + 32) rfl zk zk (wrap_i32 _ zh zh) (zI (nQ (zV (zH (zH (wO yN w.heap.size k i (b + 32) h.size c zo zk rfl rfl zk rfl zk zk ?_)))))))))))
    intro aj an ac r af
    replace h := h.tg h.size r c
    replace a := zC a e
    replace a := yB a r (c.ne a zi)
    replace c := ac
    refine zI (zS (zJ (zD ⟨_, zo, (pos + (dec s pos).2), (i ++ [(b + 32)]), aj, rfl, n, zk, c, a, h, zo, ?_, ?_⟩)))
    ·(try simp only [List.length_append, List.length_cons, List.length_nil]); omega
    rw [← t, xW g, ← d, wW]; clear d; simp [dropW, *]; try (unfold lowerI; split <;> omega)
   intro ay
   replace h := (h.trans (l.below j)).tr e
   replace c := c.below e
   refine wB (nQ (zF (zP (zD (zV (zH (zH (wO yN w.heap.size k i b h.size c zo zk rfl rfl zk rfl zk zk ?_))))))))
   intro ak az y p ag
   replace h := h.tg h.size p c
   replace a := zC a e
   replace a := yB a p (c.ne a zi)
   replace c := y
   refine zI (zS (zJ (zD ⟨_, zo, (pos + (dec s pos).2), (i ++ [b]), ak, rfl, n, zk, c, a, h, zo, ?_, ?_⟩)))
   ·(try simp only [List.length_append, List.length_cons, List.length_nil]); omega
   rw [← t, xW g, ← d, wW]; clear d; simp [dropW, *]; try (unfold lowerI; split <;> omega)
  intro aw
  replace h := (h.trans (l.below j)).tr e
  replace c := c.below e
  refine zH (zs (zs (wM (nQ (zF (zP (zD (zV (zH (zH (wO yN w.heap.size k i b h.size c zo zk rfl rfl zk rfl zk zk ?_)))))))))))
  intro ai ap aa q al
  replace h := h.tg h.size q c
  replace a := zC a e
  replace a := yB a q (c.ne a zi)
  replace c := aa
  refine zI (zS (zJ (zD ⟨_, zo, (pos + (dec s pos).2), (i ++ [b]), ai, rfl, n, zk, c, a, h, zo, ?_, ?_⟩)))
  ·(try simp only [List.length_append, List.length_cons, List.length_nil]); omega
  rw [← t, xW g, ← d, wW]; clear d; simp [dropW, *]; try (unfold lowerI; split <;> omega)
 refine L_nextEnd s b1 pos zk a o (zr (.bool false) (nW (zF (yR (zL (zL (yD (zD (wR (zH (zc (c_utf_Encode k i _ c.rd) ?_)))))))))))
 rintro _ a1 ⟨rfl, ad⟩
 replace h := h.tr ad
 exact zI (nQ (zW (yF [(S (encL i))] (hd := n) ⟨congrArg S (by rw [looseS, ← t, runesFrom_end o]; simp [looseL]), h⟩)))
theorem c_words_Alike (a : List UInt8) (b : List UInt8) (w : World) (ha : a.length ≤ 1073741824) (hb_ : b.length ≤ 1073741824) :
  Calls Tryz.prog 104 #[(S a), (S b)] w (Ret fun v w' => v = (.bool (alikeB a b)) ∧ Below w.heap.size w w') := by
 refine wG 10 func104 rfl ?_
 have c := Below.refl w.heap.size w
 refine wR (zI (nR (zH (zc (c_words_Loose a _ zo) ?_))))
 rintro _ i ⟨rfl, d⟩
 refine zH (zc (c_words_Loose b _ zo) ?_)
 rintro _ g ⟨rfl, e⟩
 refine L_seq (looseS a) (looseS b) rfl zk zk ?_ ?_
 ·intro h
  replace c := (c.tr d).tr e
  exact zI (nQ (zW (yF [(.bool true)] ⟨eb (by simp [alikeB, *]), c⟩)))
 intro f
 replace c := (c.tr d).tr e
 exact zI (nQ (zW (yF [(.bool false)] ⟨eb (by simp [alikeB, *]), c⟩)))
theorem c_points_Hex (s : List UInt8) (w : World) (hs : s.length ≤ 1073741824) :
  Calls Tryz.prog 75 #[(S s)] w (Ret fun v w' => v = (.tuple #[(I3 ((hexF s).1)), (I6 ((hexF s).2))]) ∧ Below w.heap.size w w') := by
 refine wG 45 func75 rfl ?_
 have c := Below.refl w.heap.size w
 refine wR (zI (zI (nW (wR (zH (zsl 9 s (nLt ((s).length) 4 ?_ ?_)))))))
 ·intro h1
  exact zH (zs (zs (zs (wB (zH (zs (zs (zs (zs (zs (zs (zs (zs (wB (nQ (zT (wR (zI (zI (nQ (zW (zK (yF [(I3 0), (I6 40)] ⟨xO (e3 (by (rw [hexF_len zo]; done))) (e6 (by (rw [hexF_len zo]; done))), c⟩)))))))))))))))))))))))
 intro h2
 refine zH (zw (zH (zw (zsl 9 s (zw (nGt ((s).length) 6 ?_ ?_))))))
 ·intro h3
  exact wM (zH (zs (zs (zs (zs (zs (zs (zs (zs (wB (nQ (zT (wR (zI (zI (nQ (zW (zK (yF [(I3 0), (I6 40)] ⟨xO (e3 (by (rw [hexF_len zo]; done))) (e6 (by (rw [hexF_len zo]; done))), c⟩)))))))))))))))))))
 intro h4
 refine wM (zH (zw (zH (zw (zsl 9 s (zw (nGt ((s).length) 4 ?_ ?_)))))))
 ·intro h5
  refine zw (zH (zw (zH (zw ?_))))
  have q := zU s 0 zo; obtain ⟨h, ae⟩ := q
  have := h.toNat_lt
  have u := digitV_range h.toNat
  have g := ibF_tab h
  refine L_sindex (k := .i64) s 0 h underlying9 ae zk zk (zw (wZ .u8 ((h.toNat : Nat) : Int) ((48 : Nat) : Int) (h.toNat = 48) rfl (cmpN_eq h.toNat 48) zk zk ?_ ?_))
  ·intro h8
   replace h8 : h.toNat = 48 := by omega
   exact zw (wB (wM (nQ (zT (wR (zI (zI (nQ (zW (zK (yF [(I3 0), (I6 40)] ⟨xO (e3 (by (rw [hexF_zero zo za zo]; done))) (e6 (by (rw [hexF_zero zo za zo]; done))), c⟩)))))))))))
  intro h9
  replace h9 : h.toNat ≠ 48 := by omega
  refine zw (wB (wM (nQ (zF (zP (zD (wR (zI (nW (wR (zH (zsl 9 s (zH (nQ (zY (xD (fun m s0 w0 => ∃ (i : Nat) (n : Nat), (m = s.length - i) ∧ (s0.ds = []) ∧ ([0, 26, 4, 27].map s0.f = [(S s), (N6 ((s).length)), (I3 ((n : Nat) : Int)), (N6 i)]) ∧ (Below w.heap.size w w0) ∧ (i ≤ s.length) ∧ (n < 16 ^ i) ∧ (hexV (s.drop i) n = hexV s 0)) _ ⟨0, 0, rfl, zk, zk, c, by omega, by decide, rfl⟩ ?_))))))))))))))))
  rintro ao ak aj ⟨i, n, hm, d, p, c, i1, o, e⟩
  refine yU p ?_
  have y : i ≤ 5 → n < 1048576 := pow16 o
  have ad : i ≤ 6 → n < 16777216 := pow166 o
  refine wR (nLt i ((s).length) ?_ ?_)
  ·intro am
   refine nW (zT (zP (zD (yA (zY (wR (zH (zI (nR (zH (zH ?_)))))))))))
   have q := zU s i zo; obtain ⟨a, r⟩ := q
   have := a.toNat_lt
   have u := digitV_range a.toNat
   have g := ibF_tab a
   refine L_sindex (k := .i64) s i a underlying9 r zk zk (zc (xT ([48, 49, 50, 51, 52, 53, 54, 55, 56, 57, 65, 66, 67, 68, 69, 70] : List UInt8) ((a.toNat : Nat) : Int) _ ) ?_)
   rintro _ aq ⟨rfl, j⟩
   have := ib_range ([48, 49, 50, 51, 52, 53, 54, 55, 56, 57, 65, 66, 67, 68, 69, 70] : List UInt8) ((a.toNat : Nat) : Int)
   refine zI (nW (wR (zH (zLt .i64 (ibF ([48, 49, 50, 51, 52, 53, 54, 55, 56, 57, 65, 66, 67, 68, 69, 70] : List UInt8) ((a.toNat : Nat) : Int)) 0 ?_ ?_))))
   ·intro ah
    have c := c.tr j
    exact nQ (zT (wR (zI (zI (nQ (zW (zK (zR (zK (zK (zR (zK (yF [(I3 0), (I6 40)] (hd := d) ⟨xO (e3 (by (rw [hexF_bad e za zo]; done))) (e6 (by (rw [hexF_bad e za zo]; done))), c⟩)))))))))))))
   intro af
   refine nQ (zF (zP (zD (zV (zH (L_shl (k := .i32) (yk := .u64) ((n : Nat) : Int) (((16 * n) : Nat) : Int) 4 16 rfl zk zk zk (by rw [wrap_i32 _ zo zo]; omega) (zH (L_conv (k := .i64) (ibF ([48, 49, 50, 51, 52, 53, 54, 55, 56, 57, 65, 66, 67, 68, 69, 70] : List UInt8) ((a.toNat : Nat) : Int)) (ibF ([48, 49, 50, 51, 52, 53, 54, 55, 56, 57, 65, 66, 67, 68, 69, 70] : List UInt8) ((a.toNat : Nat) : Int)) zk underlying21 zk (wrap_i32 _ zo zo) (L_orD (((16 * n) : Nat) : Int) (ibF ([48, 49, 50, 51, 52, 53, 54, 55, 56, 57, 65, 66, 67, 68, 69, 70] : List UInt8) ((a.toNat : Nat) : Int)) n ((ibF ([48, 49, 50, 51, 52, 53, 54, 55, 56, 57, 65, 66, 67, 68, 69, 70] : List UInt8) ((a.toNat : Nat) : Int)).toNat) zo zo zk zk (zI (zS (zJ (zD (zV (zad i 1 (zH (zS ?_)))))))))))))))))
   have c := c.tr j
   refine zD ⟨_, zo, (i + 1), (16 * n + ((ibF ([48, 49, 50, 51, 52, 53, 54, 55, 56, 57, 65, 66, 67, 68, 69, 70] : List UInt8) ((a.toNat : Nat) : Int)).toNat)), rfl, d, zk, c, zo, ?_, ?_⟩
   ·rw [g]; exact pow16s o zo
   rw [g]; exact hexV_step e za zo
  intro au
  refine nW (zF (yR (zL (zL (yD (zD (yA (wR (zH (wZ .i32 ((n : Nat) : Int) ((1114111 : Nat) : Int) (1114111 < n) rfl (cmpN_gt n 1114111) zk zk ?_ ?_))))))))))
  ·intro aa
   replace aa : 1114111 < n := by omega
   exact nQ (zT (wR (zI (zI (nQ (zW (zK (yF [(I3 0), (I6 40)] (hd := d) ⟨xO (e3 (by (rw [hexF_big (hexV_end e zo) zo]; done))) (e6 (by (rw [hexF_big (hexV_end e zo) zo]; done))), c⟩))))))))
  intro ac
  replace ac : n ≤ 1114111 := by omega
  exact nQ (zF (zP (zD (wR (zH (zI (zI (nQ (zW (yF [(I3 ((n : Nat) : Int)), (I6 0)] (hd := d) ⟨xO (e3 (by (rw [hexF_ok (hexV_end e zo) zo zo zo (.inr ⟨_, by assumption, by omega⟩)]; done))) (e6 (by (rw [hexF_ok (hexV_end e zo) zo zo zo (.inr ⟨_, by assumption, by omega⟩)]; done))), c⟩))))))))))
 intro az
 refine zw (zH (zs (zs (zs (zw (wM (wM (nQ (zF (zP (zD (wR (zI (nW (wR (zH (zsl 9 s (zH (nQ (zY (xD (fun m s0 w0 => ∃ (i : Nat) (n : Nat), (m = s.length - i) ∧ (s0.ds = []) ∧ ([0, 26, 4, 27].map s0.f = [(S s), (N6 ((s).length)), (I3 ((n : Nat) : Int)), (N6 i)]) ∧ (Below w.heap.size w w0) ∧ (i ≤ s.length) ∧ (n < 16 ^ i) ∧ (hexV (s.drop i) n = hexV s 0)) _ ⟨0, 0, rfl, zk, zk, c, by omega, by decide, rfl⟩ ?_)))))))))))))))))))))
 rintro an av ay ⟨i, n, hm, d, p, c, i1, o, e⟩
 refine yU p ?_
 have y : i ≤ 5 → n < 1048576 := pow16 o
 have ad : i ≤ 6 → n < 16777216 := pow166 o
 refine wR (nLt i ((s).length) ?_ ?_)
 ·intro al
  refine nW (zT (zP (zD (yA (zY (wR (zH (zI (nR (zH (zH ?_)))))))))))
  have q := zU s i zo; obtain ⟨b, t⟩ := q
  have := b.toNat_lt
  have u := digitV_range b.toNat
  have g := ibF_tab b
  refine L_sindex (k := .i64) s i b underlying9 t zk zk (zc (xT ([48, 49, 50, 51, 52, 53, 54, 55, 56, 57, 65, 66, 67, 68, 69, 70] : List UInt8) ((b.toNat : Nat) : Int) _ ) ?_)
  rintro _ ap ⟨rfl, l⟩
  have := ib_range ([48, 49, 50, 51, 52, 53, 54, 55, 56, 57, 65, 66, 67, 68, 69, 70] : List UInt8) ((b.toNat : Nat) : Int)
  refine zI (nW (wR (zH (zLt .i64 (ibF ([48, 49, 50, 51, 52, 53, 54, 55, 56, 57, 65, 66, 67, 68, 69, 70] : List UInt8) ((b.toNat : Nat) : Int)) 0 ?_ ?_))))
  ·intro ar
   have c := c.tr l
   exact nQ (zT (wR (zI (zI (nQ (zW (zK (zR (zK (zK (zR (zK (yF [(I3 0), (I6 40)] (hd := d) ⟨xO (e3 (by (rw [hexF_bad e za zo]; done))) (e6 (by (rw [hexF_bad e za zo]; done))), c⟩)))))))))))))
  intro ag
  refine nQ (zF (zP (zD (zV (zH (L_shl (k := .i32) (yk := .u64) ((n : Nat) : Int) (((16 * n) : Nat) : Int) 4 16 rfl zk zk zk (by rw [wrap_i32 _ zo zo]; omega) (zH (L_conv (k := .i64) (ibF ([48, 49, 50, 51, 52, 53, 54, 55, 56, 57, 65, 66, 67, 68, 69, 70] : List UInt8) ((b.toNat : Nat) : Int)) (ibF ([48, 49, 50, 51, 52, 53, 54, 55, 56, 57, 65, 66, 67, 68, 69, 70] : List UInt8) ((b.toNat : Nat) : Int)) zk underlying21 zk (wrap_i32 _ zo zo) (L_orD (((16 * n) : Nat) : Int) (ibF ([48, 49, 50, 51, 52, 53, 54, 55, 56, 57, 65, 66, 67, 68, 69, 70] : List UInt8) ((b.toNat : Nat) : Int)) n ((ibF ([48, 49, 50, 51, 52, 53, 54, 55, 56, 57, 65, 66, 67, 68, 69, 70] : List UInt8) ((b.toNat : Nat) : Int)).toNat) zo zo zk zk (zI (zS (zJ (zD (zV (zad i 1 (zH (zS ?_)))))))))))))))))
  have c := c.tr l
  refine zD ⟨_, zo, (i + 1), (16 * n + ((ibF ([48, 49, 50, 51, 52, 53, 54, 55, 56, 57, 65, 66, 67, 68, 69, 70] : List UInt8) ((b.toNat : Nat) : Int)).toNat)), rfl, d, zk, c, zo, ?_, ?_⟩
  ·rw [g]; exact pow16s o zo
  rw [g]; exact hexV_step e za zo
 intro ai
 refine nW (zF (yR (zL (zL (yD (zD (yA (wR (zH (wZ .i32 ((n : Nat) : Int) ((1114111 : Nat) : Int) (1114111 < n) rfl (cmpN_gt n 1114111) zk zk ?_ ?_))))))))))
 ·intro ab
  replace ab : 1114111 < n := by omega
  exact nQ (zT (wR (zI (zI (nQ (zW (zK (yF [(I3 0), (I6 40)] (hd := d) ⟨xO (e3 (by (exfalso; omega))) (e6 (by (exfalso; omega))), c⟩))))))))
 intro z
 replace z : n ≤ 1114111 := by omega
 exact nQ (zF (zP (zD (wR (zH (zI (zI (nQ (zW (yF [(I3 ((n : Nat) : Int)), (I6 0)] (hd := d) ⟨xO (e3 (by (rw [hexF_ok (hexV_end e zo) zo zo zo (.inl zo)]; done))) (e6 (by (rw [hexF_ok (hexV_end e zo) zo zo zo (.inl zo)]; done))), c⟩))))))))))
theorem c_slices_Reverse {B_ E_ : Nat} (a : Value) (s : List (Int)) (w : World) (b : Row w B_ E_ 1 encU8 a s)  :
  Calls Tryz.prog 77 #[a] w (Ret fun v w' => v = (.tuple #[]) ∧ Row w' B_ E_ 1 encU8 a (List.reverse s) ∧ w.grownBy w' (Value.ownBlock a)) :=
 reverse_contract (fun x : Int => Value.int .u8 x) zj (AnyE.slices_Reverse_empty laysRev) (AnyE.slices_Reverse laysRev _ zj) a s w b
theorem c_points_Show (r : Int) (w : World) :
  Calls Tryz.prog 42 #[(I3 r)] w (Ret fun v w' => v = (.tuple #[(S ((showF r).1)), (I6 ((showF r).2))]) ∧ Below w.heap.size w w') := by
 refine wG 32 func42 rfl ?_
 have c := Below.refl w.heap.size w
 refine wR (zI (zI (nW (wR (zH (zLt .i32 r 0 ?_ ?_))))))
 ·intro h1
  exact zH (zs (zs (wB (nQ (zT (wR (zI (zI (nQ (zW (zK (yF [(S []), (I6 40)] ⟨xO (congrArg S (by (rw [showF_bad zo]; done))) (e6 (by (rw [showF_bad zo]; done))), c⟩))))))))))))
 intro h2
 refine zH (zw (zH (zw (zGt .i32 r 1114111 ?_ ?_))))
 ·intro h3
  exact wM (nQ (zT (wR (zI (zI (nQ (zW (zK (yF [(S []), (I6 40)] ⟨xO (congrArg S (by (rw [showF_bad zo]; done))) (e6 (by (rw [showF_bad zo]; done))), c⟩)))))))))
 intro h4
 refine wM (nQ (zF (zP (zD (wR (zI (nW (wR (zH (zI (nQ (zY (xD (fun m s0 w0 => ∃ (a : List Int) (z : Int) (d : Value), (m = 10 - a.length) ∧ (s0.ds = []) ∧ ([2, 3, 4, 5].map s0.f = [(S []), (I6 0), d, (I3 z)]) ∧ (Row w0 w.heap.size 5 1 encU8 d a) ∧ (Below w.heap.size w w0) ∧ (a.length ≤ cntD r.toNat) ∧ (z = ((r.toNat / 16 ^ a.length : Nat) : Int)) ∧ (a = lowB (digsD r.toNat a.length))) _ ⟨[], r, (.slice none 0 0), rfl, zk, zk, Row.nil _ _ _ _ _, c, Nat.zero_le _, by simp; omega, rfl⟩ ?_)))))))))))))
 rintro m5 s6 w7 ⟨a, z, d, hm, h, ac, b, c, i1, g, i⟩
 refine yU ac ?_
 have ak := cntD_le r.toNat
 have aj := show_factsR i1 g zo
 refine yA (wR (zH (zGt .i32 z 0 ?_ ?_)))
 ·intro h8
  refine zH (zs (zs (zs (wB (nQ (zT (zP (zD (yA (zY (zV (zH (zH (L_and15 z z.toNat zo zk zk ?_))))))))))))))
  have hz := zU ([48, 49, 50, 51, 52, 53, 54, 55, 56, 57, 65, 66, 67, 68, 69, 70] : List UInt8) (z.toNat % 16) (by (rw [show (([48, 49, 50, 51, 52, 53, 54, 55, 56, 57, 65, 66, 67, 68, 69, 70] : List UInt8)).length = 16 from rfl]; omega)); obtain ⟨u, n⟩ := hz
  have := u.toNat_lt
  refine L_sindex (k := .i32) ([48, 49, 50, 51, 52, 53, 54, 55, 56, 57, 65, 66, 67, 68, 69, 70] : List UInt8) (z.toNat % 16) u underlying9 n zk zk (wO el97 w.heap.size d a ((u.toNat : Nat) : Int) c.size b zo zk rfl rfl zk rfl zk zk ?_)
  intro y ah p l af
  have c := c.tg c.size l b
  have b := p
  refine zI (zS (zJ (zD (zV (zH (L_shr (k := .i32) (yk := .u64) z 4 16 rfl zk zk zk (zI (zS (zD ⟨_, ?_, (a ++ [((u.toNat : Nat) : Int)]), (z / 16), y, rfl, h, zk, b, c, ?_, ?_, ?_⟩)))))))))
  ·simp; omega
  ·simp; omega
  ·exact (show_stepR g i za).1
  exact (show_stepR g i za).2
 intro ai
 refine zH (zw (zH (zw (zln underlying97 (b.rd).len (zw (nLt ((a).length) 4 ?_ ?_))))))
 ·intro an
  refine wM (nQ (zT (zP (zD (yA (zY (zV (zH (zH (L_and15 z z.toNat zo zk zk ?_))))))))))
  have hz := zU ([48, 49, 50, 51, 52, 53, 54, 55, 56, 57, 65, 66, 67, 68, 69, 70] : List UInt8) (z.toNat % 16) (by (rw [show (([48, 49, 50, 51, 52, 53, 54, 55, 56, 57, 65, 66, 67, 68, 69, 70] : List UInt8)).length = 16 from rfl]; omega)); obtain ⟨e, o⟩ := hz
  have := e.toNat_lt
  refine L_sindex (k := .i32) ([48, 49, 50, 51, 52, 53, 54, 55, 56, 57, 65, 66, 67, 68, 69, 70] : List UInt8) (z.toNat % 16) e underlying9 o zk zk (wO el97 w.heap.size d a ((e.toNat : Nat) : Int) c.size b zo zk rfl rfl zk rfl zk zk ?_)
  intro ae ag q s aa
  have c := c.tg c.size s b
  have b := q
  refine zI (zS (zJ (zD (zV (zH (L_shr (k := .i32) (yk := .u64) z 4 16 rfl zk zk zk (zI (zS (zD ⟨_, ?_, (a ++ [((e.toNat : Nat) : Int)]), (z / 16), ae, rfl, h, zk, b, c, ?_, ?_, ?_⟩)))))))))
  ·simp; omega
  ·simp; omega
  ·exact (show_stepR g i za).1
  exact (show_stepR g i za).2
 intro al
 refine wM (nQ (zF (yR (zL (zL (yD (zD (wR (zH (zc (c_slices_Reverse d a _ b ) ?_))))))))))
 rintro _ am ⟨rfl, t, j⟩
 have c := c.tg c.size j b
 have b := t
 exact nR (zH (L_bytesStr d (List.reverse a) underlying97 underlying5 underlying9 zk b.rd (zI (zI (nQ (zW (yF [(S (bytesI (List.reverse a))), (I6 0)] (hd := h) ⟨xO (congrArg S (by (rw [showF_ok zo zo]; first | done | exact show_endR i1 g i zo zo))) (e6 (by (rw [showF_ok zo zo]; first | done | exact show_endR i1 g i zo zo))), c⟩)))))))
end Go.Proofs.YtddnhlobnembaaaGreatDoor
end

/- === FKl === -/
section
/- FKl: a strings.Builder of the call's own, carried over the steps of a walk; its methods. My own text, over the kit's shelf. -/
namespace Go.FK
open Go Go.RowKit
def Bld (T E B b : Nat) (l : List UInt8) (w : World) : Prop := Lib.IsBuilderF T E B b (Lib.byteCells l) w
theorem Bld.at {T E B b : Nat} {l : List UInt8} {w : World} (h : Bld T E B b l w) : B ≤ b ∧ ∃ p v, w.heap[b]? = some (.cells #[p, v] T (0, 0)) := by
 rcases h with ⟨hB, v, hb, _⟩ | ⟨hB, v, hb, _⟩
 ·exact ⟨hB, _, v, hb⟩
 ·exact ⟨hB, _, v, hb⟩
theorem Bld.lt {T E B b : Nat} {l : List UInt8} {w : World} (h : Bld T E B b l w) : b < w.heap.size := by
 obtain ⟨_, p, v, hb⟩ := h.at
 exact yC hb
theorem bldAt_same {T E B b : Nat} {p : Value} {bs : List Value} {w w' : World} (h : Lib.BuilderAtF T E B b p bs w) (hk : ∀ k : Nat, (∃ cs X fz, w.heap[k]? = some (.cells cs X fz) ∧ (X = T ∨ X = E)) → w'.heap[k]? = w.heap[k]?) : Lib.BuilderAtF T E B b p bs w' := by
 obtain ⟨hB, v, hb, hown, hne⟩ := h
 refine ⟨hB, v, (hk b ⟨_, _, _, hb, .inl rfl⟩).trans hb, ⟨hown.1, ?_⟩, hne⟩
 rcases hown.2 with hn | ⟨g, cap, cur, fz, hv, hbg, hg, rest⟩
 ·exact .inl hn
 ·exact .inr ⟨g, cap, cur, fz, hv, hbg, (hk g ⟨_, _, _, hg, .inr rfl⟩).trans hg, rest⟩
theorem Bld.same {T E B b : Nat} {l : List UInt8} {w w' : World} (h : Bld T E B b l w) (hk : ∀ k : Nat, (∃ cs X fz, w.heap[k]? = some (.cells cs X fz) ∧ (X = T ∨ X = E)) → w'.heap[k]? = w.heap[k]?) : Bld T E B b l w' :=
 h.elim (fun x => .inl (bldAt_same x hk)) (fun x => .inr (bldAt_same x hk))
theorem Bld.wrote {T E B b k : Nat} {l : List UInt8} {w w' : World} {o o0 : Obj} (h : Bld T E B b l w) (hW : Wrote w w' k o) (hk : w.heap[k]? = some o0) (ho : ∀ cs X fz, o0 = .cells cs X fz → X ≠ T ∧ X ≠ E) : Bld T E B b l w' :=
 h.same fun j ⟨cs, X, fz, hj, hX⟩ => hW.other j fun e => by
  subst e
  rw [hk] at hj
  have := ho cs X fz (Option.some.inj hj)
  rcases hX with a | a
  ·exact this.1 a
  ·exact this.2 a
theorem Bld.obj_kept {T E B b k : Nat} {l : List UInt8} {w w' : World} {o : Obj} (h : Bld T E B b l w) (hO : Lib.OthersKept E (some b) w w') (hk : w.heap[k]? = some o) (ho : ∀ cs X fz, o = .cells cs X fz → X ≠ T ∧ X ≠ E) : w'.heap[k]? = some o := by
 refine hO k o hk (fun e => ?_) (fun cs fz e => ?_)
 ·obtain ⟨_, p, v, hb⟩ := h.at
  have e := Option.some.inj e
  subst e
  rw [hb] at hk
  exact (ho _ _ _ (Option.some.inj hk).symm).1 rfl
 ·exact (ho _ _ _ e).2 rfl
theorem bldStr {P : Program} {f : FuncId} {T E B b : Nat} (h1 : ∀ (B b : Nat) (l : List UInt8) (w : World), Lib.IsBuilderF T E B b (Lib.byteCells l) w → B ≤ w.heap.size →
   Calls P f #[.pointer (some ⟨b, 0, none⟩)] w fun e w' => e = .returned (.string ⟨l.toArray⟩) ∧ (Lib.IsBuilderF T E B b (Lib.byteCells l) w' ∧ Below B w w' ∧ Lib.OthersKept E (some b) w w'))
  (l : List UInt8) (w : World) (h : Bld T E B b l w) (hB : B ≤ w.heap.size) :
  Calls P f #[.pointer (some ⟨b, 0, none⟩)] w (Ret fun v w' => v = S l ∧ Bld T E B b l w' ∧ Below B w w' ∧ Lib.OthersKept E (some b) w w') := by
 refine (h1 B b l w h hB).mono ?_
 rintro e w' ⟨rfl, d, a, c⟩
 exact ⟨_, rfl, rfl, d, a, c⟩
end Go.FK
end

/- === FKi === -/
section
/- FKi: regions that draw their order, whose operations have guards. My own text. -/
namespace Go.FK
open Go Go.RowKit
section
variable {P : Program} {n : Nat} {Q : Post} {s : Fm} {w : World} {ops : Array Oper} {fuel : Nat} {listed : Array Bool}
end
section
variable {P : Program} {n : Nat} {Q : Post} {s : Fm} {w : World} {ops : Array Oper} {fuel : Nat} {listed : Array Bool}
def noG (o : Oper) : Oper := { o with guard := none }
end
section
variable {P : Program} {n : Nat} {Q : Post} {s : Fm} {w : World} {ops : Array Oper} {fuel : Nat} {listed : Array Bool}
end
section
variable {P : Program} {n : Nat} {Q : Post} {s : Fm} {w : World} {ops : Array Oper} {fuel : Nat} {listed : Array Bool} {C : World → Prop}
end
section ops
variable {r : Option Nat} {P : Program} {n : Nat} {Q : Post} {s : Fm} {w : World} {ops : Array Oper} {rest : List Oper}
variable {d : Option Tmp} {ty : TypeId} {pos : String} {af : Array Edge}
end ops
end Go.FK
end

/- === FKab === -/
section
/- FKab: what the writing methods of strings.Builder do to memory: the pieces of their walks. My own text. -/
namespace Go.FK
open Go Go.RowKit
section
variable {T E B b : Nat} {l m : List UInt8} {w w1 w2 w3 : World} {p v v2 : Value}
theorem byteCells_len (l : List UInt8) : (Lib.byteCells l).length = l.length := by simp [Lib.byteCells]
end
section ops
variable {r : Option Nat} {P : Program} {n : Nat} {Q : Post} {s : Fm} {w : World} {ops : Array Oper} {rest : List Oper}
variable {d : Option Tmp} {ty : TypeId} {pos : String} {af : Array Edge} {T U E B : Nat} {l : List UInt8} {v : Value}
theorem info_u8 (hi : (P.info? E).map (fun i => (i.zero, i.size, i.bytes)) = some (some (.int .u8 0), 1, 1)) : ∃ i, P.info? E = some i ∧ i.zero = some (.int .u8 0) ∧ i.size = 1 ∧ i.bytes = 1 := by
 cases hq : P.info? E with
 | none => rw [hq] at hi; cases hi
 | some i =>
  rw [hq] at hi
  simp only [Option.map_some, Option.some.injEq, Prod.mk.injEq] at hi
  exact ⟨i, rfl, hi.1, hi.2.1, hi.2.2⟩
theorem L_toUns {src dst t : TypeId} {X : Operand} {k : Nat} {e : TypeId} {cs : List Value} (b : Nat) (hs : P.underlying src = some (.pointer t)) (hd : P.underlying dst = some .unsafePointer) (hi : (P.info? t).map (·.size) = some k) (hk : Nat.beq k 0 = false)
  (ho : w.heap[b]? = some (.cells cs.toArray e (0, 0))) (hc : Nat.blt 0 cs.length = true) (hX : s.ev n X = .pointer (some ⟨b, 0, none⟩)) (h : L r P n ops Q rest (s.put d (.pointer (some ⟨b, 0, none⟩))) w) :
  L r P n ops Q (⟨d, .convert src dst X, ty, pos, af, none⟩ :: rest) s w := by
 obtain ⟨j, hj, hjs⟩ := Option.map_eq_some_iff.1 hi
 have hsh : w.shape? b = some (e, cs.length) := by simp [World.shape?, ho]
 refine xN _ w (by simp) ?_ h
 simp only [execOp, hX, Sem.run_bind, Lib.run_to_unsafe (P := P) (w := w) ⟨b, 0, none⟩ hs hd hj (by rw [hjs]; intro e; subst e; simp at hk) hsh (by simpa using hc), Result.andThen_ok, Sem.run_pure]
theorem L_fromUns {src dst t : TypeId} {X : Operand} {k : Nat} {e : TypeId} {cs : List Value} (b : Nat) (hs : P.underlying src = some .unsafePointer) (hd : P.underlying dst = some (.pointer t)) (hi : (P.info? t).map (·.size) = some k)
  (ho : w.heap[b]? = some (.cells cs.toArray e (0, 0))) (hl : liesAt P P.depth e (cs.length / P.cellsOf e) 0 t 1 = true) (hX : s.ev n X = .pointer (some ⟨b, 0, none⟩)) (h : L r P n ops Q rest (s.put d (.pointer (some ⟨b, 0, none⟩))) w) :
  L r P n ops Q (⟨d, .convert src dst X, ty, pos, af, none⟩ :: rest) s w := by
 obtain ⟨j, hj, hjs⟩ := Option.map_eq_some_iff.1 hi
 have hsh : w.shape? b = some (e, cs.length) := by simp [World.shape?, ho]
 refine xN _ w (by simp) ?_ h
 simp only [execOp, hX, Sem.run_bind, Lib.run_from_unsafe (P := P) (w := w) ⟨b, 0, none⟩ hs hd hj hsh hl, Result.andThen_ok, Sem.run_pure]
theorem L_pneF {tp te yt : TypeId} {X Y : Operand} {k : Nat} (b : Nat) (hp : P.underlying tp = some (.pointer te)) (hi : (P.info? te).map (·.size) = some k) (hX : s.ev n X = .pointer (some ⟨b, 0, none⟩)) (hY : s.ev n Y = .pointer (some ⟨b, 0, none⟩))
  (hg : (eqGuard .neq tp X Y (.pointer (some ⟨b, 0, none⟩)) (.pointer (some ⟨b, 0, none⟩))).run P w = .ok () w) (h : L r P n ops Q rest (s.put d (.bool false)) w) : L r P n ops Q (⟨d, .binOp .neq tp X Y yt, ty, pos, af, none⟩ :: rest) s w := by
 obtain ⟨j, hj, _⟩ := Option.map_eq_some_iff.1 hi
 exact L_bin _ _ (.bool false) hX hY hg (Lib.run_neq_ptr_same w ⟨b, 0, none⟩ hp hj) h
end ops
end Go.FK
end

/- === FKad === -/
section
/- FKad: the cells of a row's block as they lie: slices of the block, copies into it. My own text. -/
namespace Go.FK
open Go Go.RowKit
def AtE {α : Type} (enc : α → List Value) (k : Nat) (cur : List Value) (a : Nat) (ys : List α) : Prop := (cur.drop (a * k)).take (ys.length * k) = ys.flatMap enc
def putAt (k : Nat) (cur : List Value) (a : Nat) (cs : List Value) : List Value := cur.take (a * k) ++ cs ++ cur.drop (a * k + cs.length)
structure Raw (w : World) (B E k g cap : Nat) (cur : List Value) : Prop where
  base : B ≤ g
  here : w.heap[g]? = some (.cells cur.toArray E (0, 0))
  capm : cap ≤ maxLen
  size : cur.length = cap * k
theorem putAt_len {k a : Nat} {cur cs : List Value} (h : a * k + cs.length ≤ cur.length) : (putAt k cur a cs).length = cur.length := by
 unfold putAt; rw [List.length_append, List.length_append, List.length_take, List.length_drop]; omega
section
variable {α : Type} {enc : α → List Value} {k : Nat} {cur cs : List Value}
end
theorem Row.mono0 {α : Type} {w : World} {B E k : Nat} {enc : α → List Value} {v : Value} {xs : List α} (h : Row w B E k enc v xs) : Row w 0 E k enc v xs := by
 refine ⟨h.1, ?_⟩
 rcases h.2 with a | ⟨g, cap, cur, hv, hg, r⟩
 ·exact .inl a
 ·exact .inr ⟨g, cap, cur, hv, Nat.zero_le _, r⟩
theorem Raw.frozen {w : World} {B E k g cap : Nat} {cur : List Value} (h : Raw w B E k g cap cur) (j : Nat) : w.frozen? ⟨g, j, none⟩ = false := by unfold World.frozen?; rw [h.here]; simp
section ops
variable {r : Option Nat} {P : Program} {n : Nat} {Q : Post} {s : Fm} {w : World} {ops : Array Oper} {rest : List Oper}
variable {d : Option Tmp} {ty : TypeId} {pos : String} {af : Array Edge}
theorem Raw.put {B E k g cap a : Nat} {cur cs : List Value} (h : Raw w B E k g cap cur) (hf : a * k + cs.length ≤ cur.length) : Raw (w.setRow g (putAt k cur a cs).toArray) B E k g cap (putAt k cur a cs) :=
 ⟨h.base, setRow_heap w g _ _ E (0, 0) h.here, h.capm, by rw [putAt_len hf]; exact h.size⟩
theorem Lq_aggne {K : Fm → Prop} {t yt : TypeId} {X Y : Operand} (xs ys : List Value) (b : Bool) (hx : s.ev n X = .agg xs.toArray) (hy : s.ev n Y = .agg ys.toArray) (hm : P.eqGuardType P.depth t = false)
  (hq : ∀ w, (Op.equalIn 10000 t (.agg xs.toArray) (.agg ys.toArray)).run P w = .ok b w)
  (ht : b = false → Lq P n ops w K rest (s.put d (.bool true))) (hf : b = true → Lq P n ops w K rest (s.put d (.bool false))) : Lq P n ops w K (⟨d, .binOp .neq t X Y yt, ty, pos, af, none⟩ :: rest) s := by
 have hg : ∀ w, (eqGuard .neq t X Y (.agg xs.toArray) (.agg ys.toArray)).run P w = .ok () w := fun w => run_eqGuard_agg (P := P) w .neq t X Y xs.toArray ys.toArray hm
 have hb : ∀ w, (binOp .neq t (.agg xs.toArray) (.agg ys.toArray)).run P w = .ok (.bool (!b)) w := fun w => by
  have hb := run_neq_struct (P := P) w t xs.toArray ys.toArray
  rw [hq, Result.andThen_ok] at hb
  exact hb
 refine Lq_bin _ _ _ hx hy hg hb ?_
 cases b with
 | true => exact hf rfl
 | false => exact ht rfl
end ops
end Go.FK
end

/- === FKae === -/
section
/- FKae: a region that draws its order, of which the first operations only read and must all come before one that changes memory: they may be walked in the order of the text. My own text. -/
namespace Go.FK
open Go Go.RowKit
def onB (o : Oper) (i : Nat) : Bool := o.after.any fun e => Region.binds .any e && Nat.beq e.on i
def preOk (ops : Array Oper) (k : Nat) : Bool :=
  ((List.range k).all fun i => match ops[i]? with
    | some o => (o.after.all fun e => !Region.binds .any e || decide (e.on < i)) && (match o.guard with | none => true | some g => decide (g.1 < k))
    | none => false) &&
  ((List.range k).all fun i => (List.range (k + 1)).any fun j => decide (i < j) && (match ops[j]? with | some o => onB o i | none => false)) &&
  ((List.range ops.size).all fun j => decide (j ≤ k) || (match ops[j]? with | some o => o.after.any fun e => Region.binds .any e && decide (k ≤ e.on) | none => false))
def preL (k N : Nat) : Array Bool := ((List.range N).map fun j => decide (j < k)).toArray
section
variable {ops : Array Oper} {k : Nat} {L : Array Bool}
structure PreI (ops : Array Oper) (k : Nat) (L : Array Bool) : Prop where
  size : L.size = ops.size
  high : ∀ j, k ≤ j → j < ops.size → L.getD j true = false
  down : ∀ i o, i < k → ops[i]? = some o → L.getD i true = true → ∀ e ∈ o.after, Region.binds .any e = true → L.getD e.on false = true
theorem pre_back (h : preOk ops k = true) {i : Nat} (hi : i < k) : ∃ o, ops[i]? = some o ∧ (∀ e ∈ o.after, Region.binds .any e = true → e.on < i) ∧ (∀ g, o.guard = some g → g.1 < k) := by
 unfold preOk at h
 simp only [Bool.and_eq_true, List.all_eq_true, List.mem_range] at h
 have a := h.1.1 i hi
 cases ho : ops[i]? with
 | none => rw [ho] at a; cases a
 | some o =>
  rw [ho] at a
  simp only [Bool.and_eq_true] at a
  refine ⟨o, rfl, fun e he hb => ?_, fun g hg => ?_⟩
  ·have := Array.all_eq_true'.1 a.1 e he
   simpa [hb] using this
  ·have b := a.2; rw [hg] at b; simpa using b
theorem pre_used (h : preOk ops k = true) {i : Nat} (hi : i < k) : ∃ j o, i < j ∧ j ≤ k ∧ ops[j]? = some o ∧ ∃ e ∈ o.after, Region.binds .any e = true ∧ e.on = i := by
 unfold preOk at h
 simp only [Bool.and_eq_true, List.all_eq_true, List.mem_range, List.any_eq_true] at h
 obtain ⟨j, hj, b, a⟩ := h.1.2 i hi
 cases ho : ops[j]? with
 | none => rw [ho] at a; cases a
 | some o =>
  rw [ho] at a
  simp only [onB] at a
  obtain ⟨e, he, hb⟩ := Array.any_eq_true'.1 a
  simp only [Bool.and_eq_true] at hb
  exact ⟨j, o, by simpa using b, by omega, ho, e, he, hb.1, Nat.eq_of_beq_eq_true hb.2⟩
theorem pre_rest (h : preOk ops k = true) {j : Nat} (hj : k < j) {o : Oper} (ho : ops[j]? = some o) : ∃ e ∈ o.after, Region.binds .any e = true ∧ k ≤ e.on := by
 unfold preOk at h
 simp only [Bool.and_eq_true, List.all_eq_true, List.mem_range] at h
 have hlt : j < ops.size := (Array.getElem?_eq_some_iff.1 ho).1
 have a := h.2 j hlt
 rw [ho] at a
 simp only [Bool.or_eq_true] at a
 rcases a with a | a
 ·have := of_decide_eq_true a; omega
 ·obtain ⟨e, he, hb⟩ := Array.any_eq_true'.1 a
  simp only [Bool.and_eq_true] at hb
  exact ⟨e, he, hb.1, of_decide_eq_true hb.2⟩
theorem getD_tf {L : Array Bool} {i : Nat} (h : i < L.size) : L.getD i false = L.getD i true := by simp [h]
theorem pre_low (h : preOk ops k = true) (hI : PreI ops k L) (hk : k ≤ ops.size) {i : Nat} (hi : i < k) (hu : L.getD i true = false) {j : Nat} (hj : j ∈ Region.ready .any ops L) : j < k := by
 rcases Nat.lt_or_ge j k with hlt | hge
 ·exact hlt
 exfalso
 obtain ⟨c, o, ho, hall⟩ := mem_ready.1 hj
 rcases Nat.lt_or_ge k j with hlt | hle
 ·obtain ⟨e, he, hb, hke⟩ := pre_rest h hlt ho
  have a := hall e he hb
  rcases Nat.lt_or_ge e.on ops.size with hs | hs
  ·rw [getD_tf (by rw [hI.size]; exact hs), hI.high _ hke hs] at a; cases a
  ·rw [Array.getD_eq_getD_getElem?, Array.getElem?_eq_none (by rw [hI.size]; exact hs)] at a; cases a
 ·obtain rfl : j = k := by omega
  -- all of the k first are listed
  have key : ∀ m i, j - i ≤ m → i < j → L.getD i true = true := by
   intro m
   induction m with
   | zero => intro i a b; omega
   | succ m ih =>
    intro i a b
    obtain ⟨j', o', hij, hjk, ho', e, he, hb, heq⟩ := pre_used h b
    rw [← heq]
    rw [← getD_tf (by rw [hI.size]; omega)]
    rcases Nat.lt_or_ge j' j with hl | hg
    ·exact hI.down j' o' hl ho' (ih j' (by omega) hl) e he hb
    ·obtain rfl : j' = j := by omega
     rw [ho] at ho'; cases ho'
     exact hall e he hb
  have := key j i (by omega) hi
  rw [hu] at this; cases this
theorem pre_ready (h : preOk ops k = true) (hI : PreI ops k L) : ∀ i, i < k → L.getD i true = false → ∃ j, j < k ∧ j ∈ Region.ready .any ops L := by
 intro i
 induction i using Nat.strongRecOn with
 | ind i ih =>
  intro hi hu
  obtain ⟨o, ho, hb, _⟩ := pre_back h hi
  by_cases hx : ∃ m, m < i ∧ L.getD m true = false
  ·obtain ⟨m, hm, hmu⟩ := hx
   exact ih m hm (by omega) hmu
  ·refine ⟨i, hi, mem_ready.2 ⟨hu, o, ho, fun e he hbi => ?_⟩⟩
   have hlt := hb e he hbi
   have his : i < ops.size := (Array.getElem?_eq_some_iff.1 ho).1
   rw [getD_tf (by rw [hI.size]; omega)]
   cases hc : L.getD e.on true with
   | true => rfl
   | false => exact absurd ⟨_, hlt, hc⟩ hx
theorem PreI.set (hI : PreI ops k L) {i : Nat} (hi : i < k) (hr : i ∈ Region.ready .any ops L) : PreI ops k (L.setIfInBounds i true) := by
 obtain ⟨a, o, ho, hall⟩ := mem_ready.1 hr
 refine ⟨by rw [Array.size_setIfInBounds]; exact hI.size, fun j hj hs => by rw [getD_set_ne true (by omega)]; exact hI.high j hj hs, fun j o' hj ho' hl e he hb => ?_⟩
 by_cases hij : i = j
 ·subst hij
  rw [ho] at ho'; cases ho'
  exact getD_set_true (hall e he hb)
 ·rw [getD_set_ne true hij] at hl
  exact getD_set_true (hI.down j o' hj ho' hl e he hb)
def unl (L : Array Bool) : Nat → Nat
  | 0 => 0
  | k + 1 => (if L.getD k true = false then 1 else 0) + unl L k
theorem unl_far {i : Nat} : ∀ k, k ≤ i → unl (L.setIfInBounds i true) k = unl L k
 | 0, _ => rfl
 | k + 1, h => by unfold unl; rw [getD_set_ne true (by omega), unl_far k (by omega)]
theorem unl_set {i : Nat} (hs : i < L.size) (hu : L.getD i true = false) : ∀ k, i < k → unl (L.setIfInBounds i true) k + 1 = unl L k
 | 0, h => by omega
 | k + 1, h => by
  unfold unl
  by_cases hik : i = k
  ·subst hik
   rw [unl_far i (Nat.le_refl _), if_pos hu, if_neg (by simp [hs])]; omega
  ·rw [getD_set_ne true hik, ← unl_set hs hu k (by omega)]; omega
theorem unl_zero : ∀ k, unl L k = 0 → ∀ i, i < k → L.getD i true = true
 | 0, _, i, h => by omega
 | k + 1, h, i, hi => by
  unfold unl at h
  rcases Nat.lt_or_ge i k with hl | hg
  ·exact unl_zero k (by omega) i hl
  ·obtain rfl : i = k := by omega
   cases hc : L.getD i true with
   | true => rfl
   | false => rw [if_pos hc] at h; omega
theorem unl_some : ∀ k, unl L k ≠ 0 → ∃ i, i < k ∧ L.getD i true = false
 | 0, h => absurd rfl h
 | k + 1, h => by
  unfold unl at h
  by_cases hc : L.getD k true = false
  ·exact ⟨k, by omega, hc⟩
  ·rw [if_neg hc] at h
   obtain ⟨i, hi, hu⟩ := unl_some k (by omega)
   exact ⟨i, by omega, hu⟩
theorem unl_all {N : Nat} : ∀ k, k ≤ N → unl (Array.replicate N false) k = k
 | 0, _ => rfl
 | k + 1, h => by unfold unl; rw [if_pos (by simp [show k < N by omega]), unl_all k (by omega)]; omega
theorem preL_eq (hI : PreI ops k L) (hk : k ≤ ops.size) (h0 : unl L k = 0) : L = preL k ops.size := by
 refine Array.ext (by rw [hI.size]; simp [preL]) fun i h1 h2 => ?_
 have hs : i < ops.size := by rw [← hI.size]; exact h1
 have e : L.getD i true = L[i] := by simp [h1]
 rw [← e]
 have a : (preL k ops.size)[i] = decide (i < k) := by simp [preL]
 rw [a]
 rcases Nat.lt_or_ge i k with hl | hg
 ·rw [unl_zero k h0 i hl, decide_eq_true hl]
 ·rw [hI.high i hg hs, decide_eq_false (by omega)]
end
section
variable {P : Program} {n : Nat} {ops : Array Oper} {k fuel : Nat} {C : World → Prop} {K : Act → Prop} {Q' : Exit → Act → World → Prop}
end
theorem PreI.zero {ops : Array Oper} {k : Nat} : PreI ops k (Array.replicate ops.size false) := by
 refine ⟨by simp, fun j _ hs => by simp [hs], fun i o hi ho hl e he hb => ?_⟩
 have hs : i < ops.size := (Array.getElem?_eq_some_iff.1 ho).1
 simp [hs] at hl
section
variable {P : Program} {n : Nat} {Q : Post} {s : Fm} {w : World}
end
end Go.FK
end

/- === FKan === -/
section
/- FKan: a region that draws its order, of which the first a operations are taken already: those up to k only read and must all come before one that changes memory: they may be walked in the order of the text. As FKae, begun later. My own text. -/
namespace Go.FK
open Go Go.RowKit
def preOkE (ops : Array Oper) (a k : Nat) : Bool :=
  ((List.range k).all fun i => match ops[i]? with
    | some o => (o.after.all fun e => !Region.binds .any e || decide (e.on < i)) && (match o.guard with | none => true | some g => decide (g.1 < k))
    | none => false) &&
  ((List.range k).all fun i => decide (i < a) || (List.range (k + 1)).any fun j => decide (i < j) && (match ops[j]? with | some o => onB o i | none => false)) &&
  ((List.range ops.size).all fun j => decide (j ≤ k) || (match ops[j]? with | some o => o.after.any fun e => Region.binds .any e && decide (k ≤ e.on) | none => false))
section
variable {ops : Array Oper} {a k : Nat} {L : Array Bool}
end
section
variable {P : Program} {n : Nat} {ops : Array Oper} {a k fuel : Nat} {C : World → Prop} {K : Act → Prop} {Q' : Exit → Act → World → Prop}
theorem getD_preL {a N i : Nat} (hi : i < N) : (preL a N).getD i true = decide (i < a) := by simp [preL, hi]
end
section
variable {P : Program} {n : Nat} {Q : Post} {s : Fm} {w : World}
end
section
variable {r : Option Nat} {P : Program} {n : Nat} {ops : Array Oper} {Q : Post} {rest : List Oper} {s : Fm} {w : World} {d : Option Tmp} {ty : TypeId} {pos : String} {af : Array Edge}
end
end Go.FK
end

/- === FKao === -/
section
/- FKao: a region that draws its order, of which the first k operations leave old memory alone (they may call, and make memory) and must all come before one behind: what each hands out is known by a fact that stays; each operation is walked once. My own text. -/
namespace Go.FK
open Go Go.RowKit
def dOf (D : List Nat) (i : Nat) : Nat := D.getD i 0
def diffB (D : List Nat) : Bool := (List.range D.length).all fun i => (List.range D.length).all fun j => Nat.beq i j || !Nat.beq (dOf D i) (dOf D j)
theorem diff_of {D : List Nat} (h : diffB D = true) {i j : Nat} (hi : i < D.length) (hj : j < D.length) (e : i ≠ j) : dOf D i ≠ dOf D j := fun q => by
 unfold diffB at h
 have a := List.all_eq_true.1 (List.all_eq_true.1 h i (List.mem_range.2 hi)) j (List.mem_range.2 hj)
 rw [q] at a
 have : Nat.beq i j = false := by
  cases hb : Nat.beq i j with
  | false => rfl
  | true => exact absurd (Nat.eq_of_beq_eq_true hb) e
 rw [this] at a
 simp at a
def OneOk (P : Program) (n : Nat) (ops : Array Oper) (w0 : World) (s0 : Fm) (D : List Nat) (G : Nat → Value → World → Prop) (i : Nat) (o : Oper) : Prop :=
  ∀ s w, Below w0.heap.size w0 w → s.ds = s0.ds → (∀ t, D.contains t = false → s.f t = s0.f t) → (∀ j, onB o j = true → G j (s.f (dOf D j)) w) →
    ∀ Z : Fm → World → Prop, (∀ s' w', Below w.heap.size w w' → s'.ds = s.ds → (∀ t, t ≠ dOf D i → s'.f t = s.f t) → G i (s'.f (dOf D i)) w' → Z s' w') →
    L none P n ops (fun c s' w' => c = .normal ∧ Z s' w') [o] s w
def OpsOk (P : Program) (n : Nat) (ops : Array Oper) (w0 : World) (s0 : Fm) (D : List Nat) (G : Nat → Value → World → Prop) : Nat → List Oper → Prop
  | _, [] => True
  | i, o :: rest => OneOk P n ops w0 s0 D G i o ∧ OpsOk P n ops w0 s0 D G (i + 1) rest
section
variable {P : Program} {n : Nat} {ops : Array Oper} {w0 : World} {s0 : Fm} {D : List Nat} {G : Nat → Value → World → Prop}
theorem ops_at (l : List Oper) : ∀ (i j : Nat) (o : Oper), OpsOk P n ops w0 s0 D G i l → l[j]? = some o → OneOk P n ops w0 s0 D G (i + j) o := by
 induction l with
 | nil => intro i j o h e; simp at e
 | cons a l ih =>
  intro i j o h e
  have h' : OneOk P n ops w0 s0 D G i a ∧ OpsOk P n ops w0 s0 D G (i + 1) l := h
  cases j with
  | zero =>
   have e : a = o := by simpa using e
   rw [Nat.add_zero, ← e]; exact h'.1
  | succ j =>
   have := ih (i + 1) j o h'.2 (by simpa using e)
   rw [show i + (j + 1) = i + 1 + j by omega]; exact this
def InvL (w0 : World) (s0 : Fm) (D : List Nat) (G : Nat → Value → World → Prop) (k : Nat) (A : Array Bool) (s : Fm) (w : World) : Prop :=
  Below w0.heap.size w0 w ∧ s.ds = s0.ds ∧ (∀ t, D.contains t = false → s.f t = s0.f t) ∧ ∀ i, i < k → A.getD i false = true → G i (s.f (dOf D i)) w
theorem inv_any {Q : Post} {k fuel : Nat} (h : preOk ops k = true) (hk : k ≤ ops.size) (hD : diffB D = true) (hDl : D.length = k) (hng : ∀ i o, i < k → ops[i]? = some o → o.guard = none)
  (hG : ∀ i v A B, G i v A → Below A.heap.size A B → G i v B) (hop : ∀ i o, i < k → ops[i]? = some o → OneOk P n ops w0 s0 D G i o)
  (fin : ∀ s w, InvL w0 s0 D G k (preL k ops.size) s w → Li P n ops Q fuel (preL k ops.size) s w) :
  ∀ (m : Nat) (A : Array Bool) (s : Fm) (w : World), PreI ops k A → unl A k = m → InvL w0 s0 D G k A s w → Li P n ops Q (m + fuel) A s w
 | 0, A, s, w, hI, hu, hv => by
  rw [Nat.zero_add]
  have e := preL_eq hI hk hu
  subst e
  exact fin s w hv
 | m + 1, A, s, w, hI, hu, hv => by
  obtain ⟨p, b, a⟩ := unl_some k (by omega : unl A k ≠ 0)
  rw [show m + 1 + fuel = m + fuel + 1 by omega]
  unfold Li
  refine ⟨fun he => ?_, fun i hi => ?_⟩
  ·obtain ⟨j, _, hj⟩ := pre_ready h hI p b a
   rw [he] at hj; cases hj
  ·have hik := pre_low h hI hk b a hi
   obtain ⟨o, ho, hbk, _⟩ := pre_back h hik
   have hs : i < A.size := by rw [hI.size]; omega
   have hun := (mem_ready.1 hi).1
   have hset := unl_set hs hun k hik
   obtain ⟨_, r, c, hall⟩ := mem_ready.1 hi
   rw [ho] at c; cases c
   have l := hop i o hik ho s w hv.1 hv.2.1 hv.2.2.1 (fun j hj => by
    unfold onB at hj
    obtain ⟨e, he, hb⟩ := Array.any_eq_true'.1 hj
    simp only [Bool.and_eq_true] at hb
    have d := hall e he hb.1
    have q := hbk e he hb.1
    have g : e.on = j := Nat.eq_of_beq_eq_true hb.2
    rw [← g]
    exact hv.2.2.2 _ (by omega) d) (fun s' w' => Li P n ops Q (m + fuel) (A.setIfInBounds i true) s' w') (fun s' w' q2 q3 q4 q5 => by
    refine inv_any h hk hD hDl hng hG hop fin m _ s' w' (hI.set hik hi) (by omega) ⟨?_, q3.trans hv.2.1, fun t ht => ?_, fun j hj hl => ?_⟩
    ·exact hv.1.trans (q2.mono hv.1.size)
    ·rw [q4 t (fun e => by
      rw [e] at ht
      have : D.contains (dOf D i) = true := by
       rw [List.contains_iff_mem]
       unfold dOf
       rw [List.getD_eq_getElem?_getD, List.getElem?_eq_getElem (by omega)]
       exact List.getElem_mem _
      rw [this] at ht; cases ht)]
     exact hv.2.2.1 t ht
    ·by_cases hij : i = j
     ·subst hij; exact q5
     ·rw [q4 _ (diff_of hD (by omega) (by omega) (fun e => hij e.symm))]
      refine hG _ _ _ _ (hv.2.2.2 j hj ?_) q2
      have hjs : j < A.size := by rw [hI.size]; omega
      have f : (A.setIfInBounds i true).getD j false = A.getD j false := by
       rw [Array.getD_eq_getD_getElem?, Array.getD_eq_getD_getElem?, Array.getElem?_setIfInBounds, if_neg hij]
      rw [f] at hl; exact hl)
   have d := I_op (Q := Q) (fuel := m + fuel) (listed := A) i ho l (hng i o hik ho)
   unfold Iop at d
   exact d
end
section
variable {P : Program} {n : Nat} {Q : Post} {s : Fm} {w : World}
theorem W_inv {r : Option Nat} {id : Nat} {l : List Oper} (k N m : Nat) (D : List Nat) (G : Nat → Value → World → Prop) (hN : Nat.beq l.length N = true) (hm : P.follows .mixedOrders = true) (hd : noDefers l.toArray = true) (hp : preOk l.toArray k = true)
  (hng : ((l.take k).all fun o => o.guard.isNone) = true) (hD : diffB D = true) (hDl : Nat.beq D.length k = true) (hk : Nat.beq (k + m) N = true) (hG : ∀ i v A B, G i v A → Below A.heap.size A B → G i v B)
  (hop : ∀ w', Below w.heap.size w w' → OpsOk P n l.toArray w' s D G 0 (l.take k))
  (h : ∀ w' s1 w1, Below w.heap.size w w' → Below w'.heap.size w' w1 → s1.ds = s.ds → (∀ t, D.contains t = false → s1.f t = s.f t) → (∀ i, i < k → G i (s1.f (dOf D i)) w1) → Li P n l.toArray Q m (preL k N) s1 w1) : W r P n (.region id l.toArray true) Q s w := by
 refine W_draws N hN hm hd fun w' hw' => ?_
 obtain rfl := Nat.eq_of_beq_eq_true hN
 have hk := Nat.eq_of_beq_eq_true hk
 have hDl := Nat.eq_of_beq_eq_true hDl
 have ho := hop w' hw'
 have key := inv_any (P := P) (n := n) (ops := l.toArray) (w0 := w') (s0 := s) (D := D) (G := G) (Q := Q) (fuel := m) hp (by simp; omega) hD hDl (fun i o hi he => by
   have he : l[i]? = some o := by simpa using he
   have a : (l.take k)[i]? = some o := by rw [List.getElem?_take, if_pos hi]; exact he
   have := List.all_eq_true.1 hng o (List.mem_of_getElem? a)
   exact Option.isNone_iff_eq_none.1 this) hG (fun i o hi he => by
   have he : l[i]? = some o := by simpa using he
   have a : (l.take k)[i]? = some o := by rw [List.getElem?_take, if_pos hi]; exact he
   have := ops_at _ 0 i o ho a
   rw [Nat.zero_add] at this; exact this)
  (fun s1 w1 hv => by
   have e : l.toArray.size = l.length := by simp
   rw [e] at hv ⊢
   exact h w' s1 w1 hw' hv.1 hv.2.1 hv.2.2.1 (fun i hi => hv.2.2.2 i hi (by
    rw [getD_tf (by simp [preL]; omega), getD_preL (by omega)]; exact decide_eq_true hi)))
  k (Array.replicate l.length false) s w' (by have := PreI.zero (ops := l.toArray) (k := k); simpa using this) (unl_all k (by omega)) ⟨Below.refl _ _, rfl, fun t _ => rfl, fun i hi hl => by simp [show i < l.length by omega] at hl⟩
 rw [hk] at key
 exact key
end
theorem yT {s : Fm} {i : Nat} {v : Value} (h : s.f i = v) : s.put (some i) v = s := by
 cases s with
 | mk f ds =>
  simp only [Fm.put, Fm.mk.injEq, and_true]
  funext j
  cases hj : Nat.beq j i with
  | false => rfl
  | true => rw [Nat.eq_of_beq_eq_true hj]; exact h.symm
theorem yP {s : Fm} {d t : Nat} {v : Value} (h : t ≠ d) : (s.put (some d) v).f t = s.f t := by
 have : Nat.beq t d = false := by
  cases hb : Nat.beq t d with
  | false => rfl
  | true => exact absurd (Nat.eq_of_beq_eq_true hb) h
 simp only [Fm.put, this]; rfl
theorem xI {s : Fm} {d : Option Nat} {v : Value} : (s.put d v).ds = s.ds := by cases d <;> rfl
theorem put_here {s : Fm} {d : Nat} {v : Value} : (s.put (some d) v).f d = v := by
 have : Nat.beq d d = true := Nat.beq_refl d
 simp only [Fm.put, this]; rfl
def putL (s : Fm) : List Nat → List Value → Fm
  | d :: ds, v :: vs => putL (s.put (some d) v) ds vs
  | _, _ => s
def AllAt (s : Fm) : List Nat → List Value → Prop
  | d :: ds, v :: vs => s.f d = v ∧ AllAt s ds vs
  | _, _ => True
theorem putL_ds : ∀ (ds : List Nat) (vs : List Value) (s : Fm), (putL s ds vs).ds = s.ds
 | [], _, _ => rfl
 | _ :: _, [], _ => rfl
 | d :: ds, v :: vs, s => by rw [putL, putL_ds ds vs]; rfl
theorem putL_at {s3 : Fm} : ∀ (ds : List Nat) (vs : List Value) (s : Fm), ds.length = vs.length → AllAt s3 ds vs → ∀ t, (putL s ds vs).f t = s3.f t ∨ (ds.contains t = false ∧ (putL s ds vs).f t = s.f t)
 | [], [], s, _, _, t => .inr ⟨rfl, rfl⟩
 | d :: ds, v :: vs, s, hl, ha, t => by
  rcases putL_at ds vs (s.put (some d) v) (by simpa using hl) ha.2 t with h | ⟨b, a⟩
  ·exact .inl h
  ·by_cases e : t = d
   ·subst e
    left
    show (putL (s.put (some t) v) ds vs).f t = _
    rw [a, put_here]; exact ha.1.symm
   ·right
    refine ⟨?_, ?_⟩
    ·rw [List.contains_cons, b, Bool.or_false]; exact beq_false_of_ne e
    ·show (putL (s.put (some d) v) ds vs).f t = _
     rw [a, yP e]
theorem frm_eq {s s3 : Fm} (ds : List Nat) (vs : List Value) (hl : ds.length = vs.length) (hd : s3.ds = s.ds) (hf : ∀ t, ds.contains t = false → s3.f t = s.f t) (hv : AllAt s3 ds vs) : s3 = putL s ds vs := by
 have c := putL_at ds vs s hl hv
 have b := putL_ds ds vs s
 have a : s3.f = (putL s ds vs).f := funext fun t => by
  rcases c t with h | ⟨h, h'⟩
  ·exact h.symm
  ·rw [h', hf t h]
 cases s3 with
 | mk f3 d3 =>
  cases hp : putL s ds vs with
  | mk f4 d4 =>
   rw [hp] at b a
   simp only at b a hd
   rw [a, hd, b]
def gOf (Gs : List (Value → World → Prop)) (i : Nat) : Value → World → Prop := Gs.getD i (fun _ _ => True)
def AllSt : List (Value → World → Prop) → Prop
  | [] => True
  | p :: l => (∀ v A B, p v A → Below A.heap.size A B → p v B) ∧ AllSt l
theorem allSt_of : ∀ (Gs : List (Value → World → Prop)), AllSt Gs → ∀ i v A B, gOf Gs i v A → Below A.heap.size A B → gOf Gs i v B
 | [], _, i, v, A, B, _, _ => by simp [gOf]
 | p :: l, h, 0, v, A, B, hp, hb => h.1 v A B hp hb
 | p :: l, h, i + 1, v, A, B, hp, hb => allSt_of l h.2 i v A B hp hb
section
variable {P : Program} {n : Nat} {Q : Post} {s : Fm} {w : World}
theorem W_invL {r : Option Nat} {id : Nat} {l : List Oper} (k N m : Nat) (D : List Nat) (Gs : List (Value → World → Prop)) (hN : Nat.beq l.length N = true) (hm : P.follows .mixedOrders = true) (hd : noDefers l.toArray = true) (hp : preOk l.toArray k = true)
  (hng : ((l.take k).all fun o => o.guard.isNone) = true) (hD : diffB D = true) (hDl : Nat.beq D.length k = true) (hk : Nat.beq (k + m) N = true) (hG : AllSt Gs)
  (hop : ∀ w', Below w.heap.size w w' → OpsOk P n l.toArray w' s D (gOf Gs) 0 (l.take k))
  (h : ∀ w' s1 w1, Below w.heap.size w w' → Below w'.heap.size w' w1 → s1.ds = s.ds → (∀ t, D.contains t = false → s1.f t = s.f t) → (∀ i, i < k → gOf Gs i (s1.f (dOf D i)) w1) → Li P n l.toArray Q m (preL k N) s1 w1) : W r P n (.region id l.toArray true) Q s w :=
 W_inv k N m D (gOf Gs) hN hm hd hp hng hD hDl hk (allSt_of Gs hG) hop h
end
end Go.FK
end

/- === FKaf === -/
section
/- FKaf: the rest of a division of whole numbers, below zero too. My own text. -/
namespace Go.FK
open Go Go.RowKit
section
variable {r : Option Nat} {P : Program} {n : Nat} {Q : Post} {s : Fm} {w : World} {ops : Array Oper} {rest : List Oper}
variable {d : Option Tmp} {ty : TypeId} {pos : String} {af : Array Edge}
end
end Go.FK
end

/- === FKag === -/
section
/- FKag: a range over an iterator inside an iterator: the first round comes behind blocks of its own. My own text; W_rangeN is W_range (FKg) with one fact more handed on. -/
namespace Go.FK
open Go Go.RowKit
theorem Kp.trans {K0 K : Nat} {A B C : World} (h : Kp K0 K A B) (k : Kp K0 K B C) : Kp K0 K A C := ⟨Nat.le_trans h.size k.size, fun i hi => (k.same i hi).trans (h.same i hi)⟩
section
variable {P : Program} {n : Nat} {Q : Post} {s : Fm} {w : World}
end
end Go.FK
end

/- === FKah === -/
section
/- FKah: an iterator whose rounds may lay blocks of its own that outlast the caller's turn: the caller's round leaves alone what was laid since its last turn. My own text; W_range2 is W_range (FKg) with that promise. -/
namespace Go.FK
open Go Go.RowKit
section
variable {r : Option Nat} {P : Program} {n : Nat} {Q : Post} {s : Fm} {w : World} {ops : Array Oper} {rest : List Oper}
variable {d : Option Tmp} {ty : TypeId} {pos : String} {af : Array Edge}
theorem L_yieldR {op : Op} {R : Ending → World → Prop} (l : Nat) (args : List Value) (hrun : (execOp (s.ev n) ⟨d, op, ty, pos, af, none⟩).run P w = (Instr.yield l args.toArray).run P w) (hd : notDefer op = true)
  (hy : YieldAt (Fw none) 0 P l args.toArray w R) (hR : ∀ e w', R e w' → ∃ b, e = .returned (.bool b) ∧ L r P n ops Q rest (s.put d (.bool b)) w') : L r P n ops Q (⟨d, op, ty, pos, af, none⟩ :: rest) s w := by
 obtain ⟨fn, tmps, assign, body, hyr, hround⟩ := hy
 have c : (execOp (s.ev n) ⟨d, op, ty, pos, af, none⟩).run P w = .ok (.round l fn tmps assign body) w := hrun.trans hyr
 refine L_step rfl (wX hd) ?_
 rw [c]
 refine ⟨fun hx => by simp [Fw] at hx, ?_⟩
 have a : RoundIn (Fw r) 0 P l fn tmps assign body w R := hround
 refine (round_any rfl a).mono ?_
 intro e w' hr
 obtain ⟨b, rfl, hL⟩ := hR e w' hr
 show wpListIn (Fw r) 0 P ops (upQ n Q) rest ((s.act n).put d (.bool b)) w'
 rw [xZ]; exact L_iff.1 hL
end
def Iter2 {α : Type} (P : Program) (g : FuncId) (lb : List Value) (encs : α → List Value) (els : List α) (N : World → Prop) : Prop :=
  ∀ (l : Nat) (J Jx : Nat → List α → World → Prop) (w : World), N w →
    (∀ A, Below w.heap.size w A → J A.heap.size [] A) →
    (∀ K pre A B, J K pre A → Ch (Iv w.heap.size K) A B → J K pre B) →
    (∀ K pre A B, Jx K pre A → Ch (Iv w.heap.size K) A B → Jx K pre B) →
    (∀ K pre x A0 A, J K pre A0 → Ch (Iv w.heap.size K) A0 A → N A → w.heap.size ≤ K → K ≤ A0.heap.size → pre ++ [x] <+: els → YieldAt (Fw none) 0 P l (encs x).toArray A fun e A' =>
      (e = .returned (.bool true) ∧ J K (pre ++ [x]) A' ∧ Kp w.heap.size K A A' ∧ Kp A0.heap.size A.heap.size A A' ∧ N A') ∨ (e = .returned (.bool false) ∧ Jx K (pre ++ [x]) A' ∧ Kp w.heap.size K A A')) →
    Calls P g (.func (.yield l) #[] #[] :: lb).toArray w (Ret fun _ w' => w.heap.size ≤ w'.heap.size ∧ ((∃ K, J K els w') ∨ (∃ K pre x, pre ++ [x] <+: els ∧ Jx K (pre ++ [x]) w')))
def roundQ2 {α : Type} (K0 K K1 K2 : Nat) (I : Nat → List α → World → Prop) (Ix : Nat → Code → List α → World → Prop) (N : World → Prop) (xs : List α) (w2 : World) : Post
  | .normal, _, w3 => Kp K0 K w2 w3 ∧ Kp K1 K2 w2 w3 ∧ I K xs w3 ∧ N w3
  | .ret, _, w3 => Kp K0 K w2 w3 ∧ Ix K .ret xs w3
  | .exit id, _, w3 => Kp K0 K w2 w3 ∧ Ix K (.exit id) xs w3
  | .goto t, _, w3 => Kp K0 K w2 w3 ∧ Ix K (.goto t) xs w3
  | _, _, _ => False
section
variable {α : Type} {K0 K K1 K2 : Nat} {I : Nat → List α → World → Prop} {Ix : Nat → Code → List α → World → Prop} {N : World → Prop} {xs : List α} {w2 w3 : World} {s : Fm}
end
section
variable {P : Program} {n : Nat} {Q : Post} {s : Fm} {w : World}
end
end Go.FK
end

/- === FKap === -/
section
/- FKap: regions that draw their order, in a round or not: a load that reads what nobody in the region writes ahead of its last operation m is taken first. As the kit's OrdersHeld, inside a fence, and the condition on the world is not asked behind m. My own text. -/
namespace Go.FK
open Go Go.RowKit
section
variable {P : Program} {ops : Array Oper} {Q : Exit → Act → World → Prop} {S : World → Prop} {m : Nat}
def wpAnyJ (P : Program) (ops : Array Oper) (Q : Exit → Act → World → Prop) (S : World → Prop) (m : Nat) : Nat → Array Bool → Act → World → Prop
  | 0, listed, a, w => Region.ready .any ops listed = [] ∧ Q .normal a w
  | fuel + 1, listed, a, w => (Region.ready .any ops listed = [] → Q .normal a w) ∧
    ∀ i ∈ Region.ready .any ops listed, wpOpIn (Fw none) 0 P ops Q i (fun a' w' => (i = m ∨ S w') ∧ wpAnyJ P ops Q S m fuel (listed.setIfInBounds i true) a' w') a w
theorem wpAnyIn_of_J : ∀ (fuel : Nat) (listed : Array Bool) (a : Act) (w : World), wpAnyJ P ops Q S m fuel listed a w → wpAnyIn (Fw none) 0 P .any ops Q fuel listed a w
 | 0, _, _, _, h => h
 | fuel + 1, _, _, _, h => ⟨h.1, fun i hi => wpOpIn_mono (fun a' w' h' => wpAnyIn_of_J fuel _ a' w' h'.2) (h.2 i hi)⟩
def YieldsJ (P : Program) (ops : Array Oper) (S : World → Prop) (o : Oper) (v : Value) (a : Act) : Prop := YieldsIf P ops S o v a ∧ ∀ w, o.about P w a.eval = none
theorem YieldsJ.wpOpIn {i : Nat} {o : Oper} {v : Value} {a : Act} (hi : ops[i]? = some o) (hy : YieldsJ P ops S o v a) {K : Act → World → Prop} {w : World} (hS : S w) (h : K (a.put o.dst v) w) : wpOpIn (Fw none) 0 P ops Q i K a w := by
 unfold Go.wpOpIn
 simp only [hi]
 have hab : ∀ f, o.about P w a.eval = some f → (Fw none).fn f := fun f hf => by rw [hy.2 w] at hf; cases hf
 have hro : (Fw none).round = none := rfl
 rcases hy.1 with ⟨hw, hv⟩ | ⟨hw, rfl⟩
 ·simp only [hw, if_true, Oper.wpIn, hro, Oper.semAt_none, hv w hS, Oper.uponIn]; exact ⟨hab, h⟩
 ·simp only [hw, Bool.false_eq_true, if_false]; exact ⟨hab, h⟩
theorem YieldsJ.of_same {o : Oper} {v : Value} {a a' : Act} (hy : YieldsJ P ops S o v a) (he : execOp a'.eval o = execOp a.eval o)
  (hw : Region.wanted o (yielded ops a'.tmps) = Region.wanted o (yielded ops a.tmps)) (hb : ∀ w, o.about P w a'.eval = o.about P w a.eval) : YieldsJ P ops S o v a' :=
 ⟨hy.1.of_same he hw, fun w => by rw [hb w]; exact hy.2 w⟩
theorem wpOpIn_putJ {j : Nat} {oi oj : Oper} {v : Value} (hj : ops[j]? = some oj) (hap : oi.apart ops oj = true)
  (hsi : ∀ cs b, oi.op ≠ .select cs b) (hsj : ∀ cs b, oj.op ≠ .select cs b)
  (hQ : ∀ c a w, Q (.panic c) (a.put oi.dst v) w → Q (.panic c) a w) {K : Act → World → Prop} {a : Act} {w : World}
  (hy : YieldsJ P ops S oi v a) (h : wpOpIn (Fw none) 0 P ops Q j K (a.put oi.dst v) w) :
  wpOpIn (Fw none) 0 P ops Q j (fun a' w' => YieldsJ P ops S oi v a' ∧ K (a'.put oi.dst v) w') a w := by
 obtain ⟨i, g, k⟩ := Oper.apart_spec hap
 have hro : (Fw none).round = none := rfl
 have keep : ∀ (a : Act), YieldsJ P ops S oi v a → ∀ u, YieldsJ P ops S oi v (a.put oj.dst u) := fun a hy u =>
  hy.of_same (execOp_put oi hsi a oj.dst u k) (wanted_put oi a oj.dst u k) (fun w => about_put oi w a oj.dst u k)
 have keepD : ∀ d, YieldsJ P ops S oi v { a with defers := d :: a.defers } := fun d => hy.of_same rfl rfl (fun _ => rfl)
 unfold wpOpIn at *
 simp only [hj] at *
 rw [wanted_put oj a oi.dst v i, about_put oj w a oi.dst v i] at h
 split
 ·rename_i hw
  simp only [hw, if_true] at h
  unfold Oper.wpIn at *
  rw [about_put oj w a oi.dst v i] at h
  refine ⟨h.1, ?_⟩
  have h := h.2
  rw [hro, Oper.semAt_none, execOp_put oj hsj a oi.dst v i] at h
  rw [hro, Oper.semAt_none]
  generalize (execOp a.eval oj).run P w = r at *
  cases r with
  | ok x w' =>
   cases x <;> simp only [Oper.uponIn] at h ⊢
   case value u => exact ⟨keep a hy u, by rw [← Act.put_comm a v u g]; exact h⟩
   case skip => exact ⟨keep a hy _, by rw [← Act.put_comm a v undef g]; exact h⟩
   case defer d =>
    refine ⟨keep _ (keepD d) _, ?_⟩
    rw [← Act.put_comm _ v undef g, ← Act.put_defers]
    exact h
   case enter f args =>
    refine ⟨h.1, CallsIn.mono h.2 fun e w'' he => ?_⟩
    cases e with
    | returned u => exact ⟨keep a hy u, by rw [← Act.put_comm a v u g]; exact he⟩
    | panicked c => exact hQ _ _ _ he
    | outgrown => exact he
   case row row args => exact ⟨h.1, RowsIn.mono h.2 fun u w'' he => ⟨keep a hy u, by rw [← Act.put_comm a v u g]; exact he⟩⟩
   case round l f tmps assign body =>
    refine ⟨h.1, RoundIn.mono h.2 fun e w'' he => ?_⟩
    cases e with
    | returned u => exact ⟨keep a hy u, by rw [← Act.put_comm a v u g]; exact he⟩
    | panicked c => exact hQ _ _ _ he
    | outgrown => exact he
  | halt x w' =>
   cases x <;> simp only [Oper.uponIn] at h ⊢
   case panic u => exact hQ _ _ _ h
 ·rename_i hw
  simp only [hw] at h
  exact ⟨h.1, keep a hy _, by rw [← Act.put_comm a v undef g]; exact h.2⟩
def waitB (ops : Array Oper) (i : Nat) (B : List Nat) : Bool := B.all fun j => Nat.beq j i || (match ops[j]? with | some o => o.after.any (fun e => Region.binds .any e && B.contains e.on) | none => false)
def freeB (L : Array Bool) (B : List Nat) : Bool := B.all fun j => !L.getD j true
theorem free_at {L : Array Bool} {B : List Nat} (h : freeB L B = true) {j : Nat} (hj : j ∈ B) : L.getD j true = false := by
 have := List.all_eq_true.1 h j hj
 simpa using this
theorem not_ready {i j : Nat} {B : List Nat} {L : Array Bool} (hw : waitB ops i B = true) (hf : freeB L B = true) (hj : j ∈ Region.ready .any ops L) (hne : j ≠ i) : j ∉ B := fun hB => by
 have a := List.all_eq_true.1 hw j hB
 obtain ⟨_, o, ho, hall⟩ := mem_ready.1 hj
 rw [ho] at a
 simp only [Bool.or_eq_true] at a
 rcases a with a | a
 ·exact hne (Nat.eq_of_beq_eq_true a)
 ·obtain ⟨e, he, hb⟩ := Array.any_eq_true'.1 a
  simp only [Bool.and_eq_true] at hb
  have c := hall e he hb.1
  have b := free_at hf (List.contains_iff_mem.1 hb.2)
  rcases Nat.lt_or_ge e.on L.size with hs | hs
  ·simp [hs] at c b; rw [c] at b; cases b
  ·simp [Array.getElem?_eq_none hs] at c
theorem free_set {j : Nat} {B : List Nat} {L : Array Bool} (hf : freeB L B = true) (hj : j ∉ B) : freeB (L.setIfInBounds j true) B = true := by
 refine List.all_eq_true.2 fun k hk => ?_
 have := free_at hf hk
 have hjk : j ≠ k := fun e => hj (by rw [e]; exact hk)
 rw [getD_set_ne true hjk, this]; rfl
theorem wpAnyJ_first {i : Nat} {oi : Oper} {v : Value} {B : List Nat} (hi : ops[i]? = some oi) (hsel : ∀ (j : Nat) (o : Oper) cs b, ops[j]? = some o → o.op ≠ .select cs b)
  (hQ : ∀ c a w, Q (.panic c) (a.put oi.dst v) w → Q (.panic c) a w) (hw : waitB ops i B = true) (hm : m ∈ B) :
  ∀ (fuel : Nat) (listed : Array Bool) (a : Act) (w : World),
   (∀ j oj, ops[j]? = some oj → j ≠ i → listed.getD j true = false → (∀ e ∈ oj.after, Region.binds .any e = true → e.on ≠ i) → oi.apart ops oj = true) →
   i ∈ Region.ready .any ops listed → freeB listed B = true → YieldsJ P ops S oi v a → S w →
   wpAnyJ P ops Q S m fuel (listed.setIfInBounds i true) (a.put oi.dst v) w → wpAnyJ P ops Q S m (fuel + 1) listed a w := by
 intro fuel
 induction fuel with
 | zero =>
  intro listed a w _ hr hf hy hS H
  refine ⟨fun h => (by rw [h] at hr; cases hr), fun j hj => ?_⟩
  by_cases hji : j = i
  ·subst hji; exact hy.wpOpIn hi hS ⟨.inr hS, H⟩
  ·have := ready_mono hj hji
   rw [H.1] at this
   cases this
 | succ fuel ih =>
  intro listed a w hfree hr hf hy hS H
  refine ⟨fun h => (by rw [h] at hr; cases hr), fun j hj => ?_⟩
  by_cases hji : j = i
  ·subst hji; exact hy.wpOpIn hi hS ⟨.inr hS, H⟩
  ·have d := H.2 j (ready_mono hj hji)
   obtain ⟨hjun, oj, hoj, hall⟩ := mem_ready.1 hj
   have hnot : ∀ e ∈ oj.after, Region.binds .any e = true → e.on ≠ i := fun e he hb heq => by
    have d := hall e he hb
    have f := (mem_ready.1 hr).1
    rw [heq] at d
    rcases Nat.lt_or_ge i listed.size with h' | h'
    ·simp [h'] at f d; rw [f] at d; cases d
    ·simp [Array.getElem?_eq_none h'] at d
   have g := wpOpIn_putJ hoj (hfree j oj hoj hji hjun hnot) (fun cs b => hsel i oi cs b hi) (fun cs b => hsel j oj cs b hoj) hQ hy d
   have hjB := not_ready hw hf hj hji
   have hfree' : ∀ k ok, ops[k]? = some ok → k ≠ i → (listed.setIfInBounds j true).getD k true = false →
     (∀ e ∈ ok.after, Region.binds .any e = true → e.on ≠ i) → oi.apart ops ok = true := fun k ok hk hki hun hno => by
    refine hfree k ok hk hki ?_ hno
    by_cases hjk : j = k
    ·subst hjk; exact hjun
    ·rw [getD_set_ne true hjk] at hun; exact hun
   refine wpOpIn_mono (fun a' w' h3 => ?_) g
   obtain ⟨hy', hjm, hk⟩ := h3
   have hS' : S w' := hjm.resolve_left (fun e => hjB (e ▸ hm))
   refine ⟨.inr hS', ih (listed.setIfInBounds j true) a' w' hfree' (ready_mono hr (Ne.symm hji)) (free_set hf hjB) hy' hS' ?_⟩
   rw [Array.setIfInBounds_comm _ _ hji]
   exact hk
end
section
variable {P : Program} {n : Nat} {Q : Post} {s : Fm} {w : World} {ops : Array Oper} {S : World → Prop} {m fuel : Nat} {listed : Array Bool}
def Lj (P : Program) (n : Nat) (ops : Array Oper) (Q : Post) (S : World → Prop) (m fuel : Nat) (listed : Array Bool) (s : Fm) (w : World) : Prop := wpAnyJ P ops (upQ n Q) S m fuel listed (s.act n) w
theorem W_heldJ {r : Option Nat} {id : Nat} {l : List Oper} (m N : Nat) (hN : Nat.beq l.length N = true) (hm : P.follows .mixedOrders = true) (hd : noDefers l.toArray = true)
  (h : ∀ w', Below w.heap.size w w' → ∃ S, Lj P n l.toArray Q S m N (Array.replicate N false) s w') : W r P n (.region id l.toArray true) Q s w := by
 refine W_draws N hN hm hd fun w' hw' => ?_
 obtain ⟨S, hS⟩ := h w' hw'
 unfold Li
 exact wpAnyIn_of_J _ _ _ _ hS
theorem J_take (i : Nat) (B : List Nat) {o : Oper} (v : Value) (hi : ops[i]? = some o) (hs : Region.noSelect ops = true) (hf : Region.free .any ops listed i = true) (hr : (Region.ready .any ops listed).contains i = true)
  (hc : noCall o.op = true) (hw : wantB ops n s o.guard = true) (hb : waitB ops i B = true) (hB : freeB listed B = true) (hm : B.contains m = true) (hq : NoPanic Q) (hS : S w) (hrun : RunOk P n o s S v) (h : Lj P n ops Q S m fuel (listed.setIfInBounds i true) (s.put o.dst v) w) : Lj P n ops Q S m (fuel + 1) listed s w := by
 unfold Lj at h ⊢
 refine wpAnyJ_first (v := v) hi (Region.noSelect_spec hs) ?_ hb (List.contains_iff_mem.1 hm) fuel listed (s.act n) w (Region.free_spec hi hf) (by simpa using hr) hB ⟨.inl ⟨?_, ?_⟩, fun w => about_none hc w _⟩ hS ?_
 ·intro c a w hp
  obtain ⟨s', _, hp⟩ := hp
  exact absurd hp (hq c s' w)
 ·rw [xX]; exact hw
 ·intro w' hw'; rw [xV]; exact hrun w' hw'
 ·rw [xZ]; exact h
theorem J_done (hr : Region.ready .any ops listed = []) (h : Q .normal s w) : Lj P n ops Q S m fuel listed s w := by
 unfold Lj
 cases fuel with
 | zero => exact ⟨hr, s, rfl, h⟩
 | succ k => exact ⟨fun _ => ⟨s, rfl, h⟩, by rw [hr]; simp⟩
def Jop (P : Program) (n : Nat) (ops : Array Oper) (Q : Post) (S : World → Prop) (m fuel : Nat) (listed : Array Bool) (i : Nat) (s : Fm) (w : World) : Prop :=
  wpOpIn (Fw none) 0 P ops (upQ n Q) i (fun a' w' => (i = m ∨ S w') ∧ wpAnyJ P ops (upQ n Q) S m fuel (listed.setIfInBounds i true) a' w') (s.act n) w
theorem J_all1 (i : Nat) (hr : Region.ready .any ops listed = [i]) (h : Jop P n ops Q S m fuel listed i s w) : Lj P n ops Q S m (fuel + 1) listed s w := by
 unfold Lj
 refine ⟨fun h0 => (by rw [hr] at h0; cases h0), fun j hj => ?_⟩
 rw [hr] at hj
 obtain rfl : j = i := by simpa using hj
 exact h
theorem J_all2 (i k : Nat) (hr : Region.ready .any ops listed = [i, k]) (h : Jop P n ops Q S m fuel listed i s w) (h2 : Jop P n ops Q S m fuel listed k s w) : Lj P n ops Q S m (fuel + 1) listed s w := by
 unfold Lj
 refine ⟨fun h0 => (by rw [hr] at h0; cases h0), fun j hj => ?_⟩
 rw [hr] at hj
 simp only [List.mem_cons, List.not_mem_nil, or_false] at hj
 rcases hj with rfl | rfl
 ·exact h
 ·exact h2
theorem J_op (i : Nat) {o : Oper} (hi : ops[i]? = some o)
  (h : L none P n ops (fun e s' w' => e = .normal ∧ (i = m ∨ S w') ∧ Lj P n ops Q S m fuel (listed.setIfInBounds i true) s' w') [o] s w) (hg : o.guard = none) : Jop P n ops Q S m fuel listed i s w := by
 unfold Jop wpOpIn
 rw [hi]
 rw [L_iff] at h
 unfold wpListIn at h
 have hwant : Region.wanted o (yielded ops (s.act n).tmps) = true := by rw [xX, hg]; rfl
 rw [if_pos hwant] at h
 simp only [hwant, if_true]
 have key : ∀ {a w'}, wpListIn (Fw none) 0 P ops (upQ n fun e s' w' => e = .normal ∧ (i = m ∨ S w') ∧ Lj P n ops Q S m fuel (listed.setIfInBounds i true) s' w') [] a w' → ((i = m ∨ S w') ∧ wpAnyJ P ops (upQ n Q) S m fuel (listed.setIfInBounds i true) a w') := by
  rintro a w' ⟨s', rfl, _, hL⟩
  exact hL
 have h := Oper.wpIn_mono (fun a w => key) h
 unfold Oper.wpIn at h ⊢
 refine ⟨h.1, ?_⟩
 have b := h.2
 generalize (o.semAt (Fw none).round (s.act n).eval).run P w = r at b
 cases r with
 | ok x w' =>
  cases x <;> simp only [Oper.uponIn] at b ⊢ <;> first
   | exact b
   | exact ⟨b.1, CallsIn.mono b.2 (fun e w'' he => by
     cases e with
     | returned v => exact he
     | panicked c => obtain ⟨s', _, he, _⟩ := he; cases he
     | outgrown => exfalso; obtain ⟨_, _, s', _, he, _⟩ := he; cases he)⟩
   | exact ⟨b.1, RoundIn.mono b.2 (fun e w'' he => by
     cases e with
     | returned v => exact he
     | panicked c => obtain ⟨s', _, he, _⟩ := he; cases he
     | outgrown => exfalso; obtain ⟨_, _, s', _, he, _⟩ := he; cases he)⟩
 | halt x w' =>
  cases x <;> first
   | (exfalso; simp only [Oper.uponIn] at b; obtain ⟨s', _, he, _⟩ := b; cases he)
   | exact b
end
section
variable {P : Program} {n : Nat} {Q : Post} {s : Fm} {w : World} {ops : Array Oper} {S : World → Prop} {m fuel : Nat} {listed : Array Bool}
theorem jt (i : Nat) (B : List Nat) {o : Oper} (hi : ops[i]? = some o) (v : Value) (hS : S w) (hrun : RunOk P n o s S v) (h : Lj P n ops Q S m fuel (listed.setIfInBounds i true) (s.put o.dst v) w)
  (hs : Region.noSelect ops = true := by kernel_rfl) (hf : Region.free .any ops listed i = true := by kernel_rfl) (hr : (Region.ready .any ops listed).contains i = true := by kernel_rfl) (hc : noCall o.op = true := by kernel_rfl) (hw : wantB ops n s o.guard = true := by kernel_rfl) (hb : waitB ops i B = true := by kernel_rfl) (hB : freeB listed B = true := by kernel_rfl) (hm : B.contains m = true := by kernel_rfl)
  (hq : NoPanic Q := by with_reducible first | exact zE | exact xB | exact wD) : Lj P n ops Q S m (fuel + 1) listed s w :=
 J_take i B v hi hs hf hr hc hw hb hB hm hq hS hrun h
theorem jp (i : Nat) (B : List Nat) {o : Oper} (hi : ops[i]? = some o) (v : Value) (hS : S w) (h : Lj P n ops Q S m fuel (listed.setIfInBounds i true) (s.put o.dst v) w)
  (hs : Region.noSelect ops = true := by kernel_rfl) (hf : Region.free .any ops listed i = true := by kernel_rfl) (hr : (Region.ready .any ops listed).contains i = true := by kernel_rfl) (hc : noCall o.op = true := by kernel_rfl) (hw : wantB ops n s o.guard = true := by kernel_rfl) (hb : waitB ops i B = true := by kernel_rfl) (hB : freeB listed B = true := by kernel_rfl) (hm : B.contains m = true := by kernel_rfl)
  (hq : NoPanic Q := by with_reducible first | exact zE | exact xB | exact wD) (hrun : RunOk P n o s S v := by exact fun _ _ => by kernel_rfl) : Lj P n ops Q S m (fuel + 1) listed s w :=
 J_take i B v hi hs hf hr hc hw hb hB hm hq hS hrun h
end
attribute [irreducible] Jop Lj
end Go.FK
end

/- === FKbc === -/
section
/- FKbc: in a region whose operations may come in any order: numbers added, the address of an element: they hang on no world. My own text. -/
namespace Go.FK
open Go Go.RowKit
section
variable {P : Program} {n : Nat} {s : Fm} {d : Option Tmp} {ty : TypeId} {pos : String} {af : Array Edge} {g : Option (Nat × Bool)}
theorem RI_arith {op : BinOp} {t yt : TypeId} {X Y : Operand} {k : IntKind} (x y z : Int) (hop : isArith op = true) (hx : s.ev n X = .int k x) (hy : s.ev n Y = .int k y) (hz : k.wrap (arithZ op x y) = z) :
  ∀ w', (execOp (s.ev n) ⟨d, .binOp op t X Y yt, ty, pos, af, g⟩).run P w' = .ok (.value (.int k z)) w' := by
 intro w'
 have a : (binOp op t (.int k x) (.int k y)).run P w' = .ok (.int k z) w' := by
  subst hz
  cases op <;> first | (simp [isArith] at hop; done) | (simp [binOp, Op.intArith, arithZ, Sem.run_pure])
 have b := xL (P := P) (w := w') (op := op) (t := t) (k := k) (x := x) (k' := k) (y := y)
 simp only [execOp, hx, hy, Sem.run_bind, a, b, Result.andThen_ok, Sem.run_pure]
theorem xR {t yt : TypeId} {X Y : Operand} (a b : Nat) (hb : a + b ≤ 9223372036854775807) (hx : s.ev n X = .int .i64 a) (hy : s.ev n Y = .int .i64 b) :
  ∀ w', (execOp (s.ev n) ⟨d, .binOp .add t X Y yt, ty, pos, af, g⟩).run P w' = .ok (.value (.int .i64 ((a + b : Nat) : Int))) w' :=
 RI_arith a b _ rfl hx hy (by rw [show arithZ .add (a : Int) b = ((a + b : Nat) : Int) by simp [arithZ]]; exact xC _ (by omega) (by omega))
theorem RI_subN {t yt : TypeId} {X Y : Operand} (a b : Nat) (hb : b ≤ a) (ha : a ≤ 9223372036854775807) (hx : s.ev n X = .int .i64 a) (hy : s.ev n Y = .int .i64 b) :
  ∀ w', (execOp (s.ev n) ⟨d, .binOp .sub t X Y yt, ty, pos, af, g⟩).run P w' = .ok (.value (.int .i64 ((a - b : Nat) : Int))) w' :=
 RI_arith a b _ rfl hx hy (by rw [show arithZ .sub (a : Int) b = ((a - b : Nat) : Int) by simp [arithZ]; omega]; exact xC _ (by omega) (by omega))
end
theorem Rd.later {α : Type} {w : World} {k : Nat} {enc : α → List Value} {v : Value} {xs : List α} (h : Rd w enc v xs) (hk : ∀ x, (enc x).length = k) {i : Nat} {x : α} {g off m : Nat} (hl : Lies v g off m) (hx : xs[i]? = some x) :
  ∀ j u, (enc x)[j]? = some u → w.cell? ⟨g, off + i * k + j, none⟩ = some u := by
 obtain ⟨e, a, ⟨f, d⟩, b⟩ := h.at hk hx
 obtain ⟨c, rfl⟩ := hl
 injection d with e1 _ _
 injection e1 with e1
 injection e1 with e2 e3
 subst e2 e3
 exact b
section
variable {P : Program} {n : Nat} {s : Fm} {d : Option Tmp} {ty : TypeId} {pos : String} {af : Array Edge} {g : Option (Nat × Bool)} {S : World → Prop}
theorem R_ixaddrZ {X I : Operand} {k : IntKind} {T E ke bytes : Nat} (v : Value) (z : Int) (i m b off : Nat) (hz : z = (i : Int)) (he : Elem P T E ke bytes) (hl : Lies v b off m) (him : i < m) (hx : s.ev n X = v) (hi : s.ev n I = .int k z) :
  RunOk P n ⟨d, .indexAddr T X I, ty, pos, af, g⟩ s S (.pointer (some ⟨b, off + i * ke, none⟩)) := by
 subst hz; exact zX v i m b off he hl him hx hi
end
end Go.FK
end
