/- FKaf: the rest of a division of whole numbers, below zero too. My own text. -/
import Derived.Test.YthjgnnfonofgkaaFKae
set_option linter.unusedVariables false
namespace Go.FK
open Go Go.RowKit
section
variable {r : Option Nat} {P : Program} {n : Nat} {Q : Post} {s : Fm} {w : World} {ops : Array Oper} {rest : List Oper}
variable {d : Option Tmp} {ty : TypeId} {pos : String} {af : Array Edge}
theorem L_remZ {t yt : TypeId} {X Y : Operand} {k : IntKind} (x y : Int) (h1 : y ≠ 0) (hx : s.ev n X = .int k x) (hy : s.ev n Y = .int k y)
    (h : L r P n ops Q rest (s.put d (.int k (x.tmod y))) w) : L r P n ops Q (⟨d, .binOp .rem t X Y yt, ty, pos, af, none⟩ :: rest) s w := by
  refine L_bin _ _ _ hx hy (eqGuard_int ..) ?_ h
  simp [binOp, Op.intDiv, h1, Sem.run_pure]
/-- Two numbers with a point held against one another; cmp: the model's own answer. -/
theorem L_fEq {t yt : TypeId} {X Y : Operand} (a b : Nat) (c : Bool) (hX : s.ev n X = .float .f64 a) (hY : s.ev n Y = .float .f64 b) (hr : (binOp .eql t (.float .f64 a) (.float .f64 b)).run P w = .ok (.bool c) w)
    (ht : c = true → L r P n ops Q rest (s.put d (.bool true)) w) (hf : c = false → L r P n ops Q rest (s.put d (.bool false)) w) : L r P n ops Q (⟨d, .binOp .eql t X Y yt, ty, pos, af, none⟩ :: rest) s w := by
  refine L_bin _ _ _ hX hY (by unfold eqGuard; rfl) hr ?_
  cases c with
  | true => exact ht rfl
  | false => exact hf rfl
theorem L_fNe {t yt : TypeId} {X Y : Operand} (a b : Nat) (c : Bool) (hX : s.ev n X = .float .f64 a) (hY : s.ev n Y = .float .f64 b) (hr : (binOp .neq t (.float .f64 a) (.float .f64 b)).run P w = .ok (.bool (!c)) w)
    (ht : c = false → L r P n ops Q rest (s.put d (.bool true)) w) (hf : c = true → L r P n ops Q rest (s.put d (.bool false)) w) : L r P n ops Q (⟨d, .binOp .neq t X Y yt, ty, pos, af, none⟩ :: rest) s w := by
  refine L_bin _ _ _ hX hY (by unfold eqGuard; rfl) hr ?_
  cases c with
  | true => exact hf rfl
  | false => exact ht rfl
theorem Lq_fEq {K : Fm → Prop} {t yt : TypeId} {X Y : Operand} (a b : Nat) (c : Bool) (hX : s.ev n X = .float .f64 a) (hY : s.ev n Y = .float .f64 b) (hr : ∀ w, (binOp .eql t (.float .f64 a) (.float .f64 b)).run P w = .ok (.bool c) w)
    (ht : c = true → Lq P n ops w K rest (s.put d (.bool true))) (hf : c = false → Lq P n ops w K rest (s.put d (.bool false))) : Lq P n ops w K (⟨d, .binOp .eql t X Y yt, ty, pos, af, none⟩ :: rest) s := by
  refine Lq_bin _ _ _ hX hY (fun _ => by unfold eqGuard; rfl) hr ?_
  cases c with
  | true => exact ht rfl
  | false => exact hf rfl
end
end Go.FK
