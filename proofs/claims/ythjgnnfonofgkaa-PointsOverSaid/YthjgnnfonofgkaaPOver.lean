/- POver: what PointsOver's law leans on. My own text. -/
import Derived.Test.YthjgnnfonofgkaaPOne
import Derived.Test.YthjgnnfonofgkaaPGL
set_option linter.unusedVariables false
namespace Go.FK
open Go
theorem tk_mem {α : Type} {x : α} {pre xs : List α} (h : pre ++ [x] <+: xs) : x ∈ xs := h.subset (List.mem_append_right _ (List.mem_singleton.2 rfl))
def encPtr (o : Option Nat) : List Value := [.pointer (o.map fun b => ⟨b, 0, none⟩)]
def evenB (n : Int) : Bool := decide (n.tmod 2 = 0)
theorem evenB_y {n : Int} (h : n.tmod 2 = 0) : true = evenB n := (decide_eq_true h).symm
theorem evenB_n {n : Int} (h : n.tmod 2 ≠ 0) : false = evenB n := (decide_eq_false h).symm
def tellB (v : Bool) : List UInt8 := if v = true then [101, 118, 101, 110] else [111, 100, 100]
theorem tellB_y {v : Bool} (h : v = true) : [101, 118, 101, 110] = tellB v := by rw [h]; rfl
theorem tellB_n {v : Bool} (h : v = false) : [111, 100, 100] = tellB v := by rw [h]; rfl
theorem tellE_y {n : Int} (h : n.tmod 2 = 0) : [101, 118, 101, 110] = tellB (evenB n) := by rw [← evenB_y h]; rfl
theorem tellE_n {n : Int} (h : n.tmod 2 ≠ 0) : [111, 100, 100] = tellB (evenB n) := by rw [← evenB_n h]; rfl
/-- The map of the first i ranges with their numbers. -/
def ofN (l : List Rg) (val : List Int) : Nat → List SpI
  | 0 => []
  | i + 1 => match l[i]?, val[i]? with
    | some r, some v => layF eqI (ofN l val i) r.1 r.2 v
    | _, _ => ofN l val i
def ofG (l : List Rg) (val : List Int) : List SpI := ofN l val (min (min l.length val.length) 40)
theorem ofN_step {l : List Rg} {val : List Int} {i : Nat} {r : Rg} {v : Int} (h1 : l[i]? = some r) (h2 : val[i]? = some v) : layF eqI (ofN l val i) r.1 r.2 v = ofN l val (i + 1) := by
  show _ = match l[i]?, val[i]? with | some r, some v => layF eqI (ofN l val i) r.1 r.2 v | _, _ => ofN l val i
  rw [h1, h2]
theorem ofN_done {l : List Rg} {val : List Int} {i : Nat} (h1 : i ≤ l.length) (h2 : i ≤ val.length) (h3 : i ≤ 40) (h : l.length ≤ i ∨ val.length ≤ i ∨ 40 ≤ i) : ofN l val i = ofG l val := by
  unfold ofG; rw [show min (min l.length val.length) 40 = i by omega]
theorem ofN_ok (l : List Rg) (val : List Int) : ∀ i, MapOk eqI (ofN l val i)
  | 0 => MapOk.nil
  | i + 1 => by
    unfold ofN
    split
    · exact (ofN_ok l val i).lay eqI_law _ _ _
    · exact ofN_ok l val i
theorem ofG_ok (l : List Rg) (val : List Int) : MapOk eqI (ofG l val) := ofN_ok l val _
theorem layAll_rise {V : Type} {eq : V → V → Bool} {m : List (SpG V)} (hm : RiseG 0 m) (xs : List (SpG V)) : RiseG 0 (layAll eq m xs) := by
  unfold layAll
  induction xs generalizing m with
  | nil => exact hm
  | cons x l ih => exact ih (layF_rise hm)
theorem overF_rise {V : Type} {eq : V → V → Bool} (xs ys : List (SpG V)) : RiseG 0 (overF eq xs ys) := layAll_rise (layAll_rise (m := []) trivial _) _
theorem turnAll_rise {V W : Type} {eq : W → W → Bool} (f : V → W) (xs : List (SpG V)) : RiseG 0 (turnAll eq f xs) := by
  have key : ∀ (xs : List (SpG V)) (m : List (SpG W)), RiseG 0 m → RiseG 0 (xs.foldl (fun m s => layF eq m s.1 s.2.1 (f s.2.2)) m) := by
    intro xs
    induction xs with
    | nil => intro m hm; exact hm
    | cons x l ih => intro m hm; exact ih _ (layF_rise hm)
  exact key xs [] trivial
end Go.FK
