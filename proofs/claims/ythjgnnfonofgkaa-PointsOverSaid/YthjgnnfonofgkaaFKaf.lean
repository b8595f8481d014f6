/- FKaf: the rest of a division of whole numbers, below zero too. My own text. -/
import Derived.Test.YthjgnnfonofgkaaFKae
set_option linter.unusedVariables false
namespace Go.FK
open Go Go.RowKit
section
variable {r : Option Nat} {P : Program} {n : Nat} {Q : Post} {s : Fm} {w : World} {ops : Array Oper} {rest : List Oper}
variable {d : Option Tmp} {ty : TypeId} {pos : String} {af : Array Edge}
theorem L_remZ {t yt : TypeId} {X Y : Operand} {k : IntKind} (x y : Int) (h1 : y ≠ 0) (hx : s.ev n X = .int k x) (hy : s.ev n Y = .int k y)
    (h : L r P n ops Q rest (s.put d (.int k (x.tmod y))) w) : L r P n ops Q (⟨d, .binOp .rem t X Y yt, ty, pos, af, none⟩ :: rest) s w := by
  refine L_bin _ _ _ hx hy (eqGuard_int ..) ?_ h
  simp [binOp, Op.intDiv, h1, Sem.run_pure]
end
end Go.FK
