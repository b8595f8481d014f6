/- PGE: the kinds of values of chapter 4's maps, in memory. My own text. -/
import Derived.Test.YthjgnnfonofgkaaPGM
import Derived.Test.YthjgnnfonofgkaaPHex
namespace Go.FK
open Go Go.RowKit
abbrev SpS := SpG (List UInt8)
abbrev SpI := SpG Int
abbrev SpB := SpG Bool
def encSpanS (x : SpS) : List Value := [.int .i32 x.1, .int .i32 x.2.1, S x.2.2]
def encSpanI (x : SpI) : List Value := [.int .i32 x.1, .int .i32 x.2.1, .int .i64 x.2.2]
def encSpanB (x : SpB) : List Value := [.int .i32 x.1, .int .i32 x.2.1, .bool x.2.2]
def eqS (a b : List UInt8) : Bool := decide (a = b)
def eqI (a b : Int) : Bool := decide (a = b)
def eqB (a b : Bool) : Bool := decide (a = b)
theorem eqS_law (a b : List UInt8) : eqS a b = true ↔ a = b := decide_eq_true_iff
theorem eqI_law (a b : Int) : eqI a b = true ↔ a = b := decide_eq_true_iff
theorem eqB_law (a b : Bool) : eqB a b = true ↔ a = b := decide_eq_true_iff
theorem eqS_y {a b : List UInt8} (h : a = b) : eqS a b = true := decide_eq_true h
theorem eqS_n {a b : List UInt8} (h : a ≠ b) : eqS a b = false := decide_eq_false h
theorem eqI_y {a b : Int} (h : a = b) : eqI a b = true := decide_eq_true h
theorem eqI_n {a b : Int} (h : a ≠ b) : eqI a b = false := decide_eq_false h
theorem eqB_y {a b : Bool} (h : a = b) : eqB a b = true := decide_eq_true h
theorem eqB_n {a b : Bool} (h : a ≠ b) : eqB a b = false := decide_eq_false h
theorem mayG_F (lo hi : Int) : mayF lo hi = mayG lo hi := rfl
theorem tnf {b : Bool} (h : b = true) : ¬ b = false := by rw [h]; decide
/-! ### replacing a part of a list -/
theorem gep_same {α : Type} {s vs : List α} {i j : Nat} (h : i = j) (hp : vs.length = 0) : s = List.take i s ++ vs ++ List.drop j s := by
  subst h
  obtain rfl : vs = [] := List.eq_nil_of_length_eq_zero hp
  simp
theorem gep_end {α : Type} {s vs : List α} {i : Nat} (h : i = s.length) : s ++ vs = List.take i s ++ vs ++ List.drop i s := by subst h; simp
theorem gep_tail {α : Type} {s vs : List α} {i j : Nat} (h : j = s.length) : List.take i s ++ vs = List.take i s ++ vs ++ List.drop j s := by subst h; simp
end Go.FK
