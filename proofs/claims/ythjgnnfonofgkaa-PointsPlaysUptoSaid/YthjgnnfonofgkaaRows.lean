/-
  No cell of these rows narrows 'for every input' (looked for: loops, veiled, ifaces, maps, wideKeys, modest, calm, conditions, laid).
  DERIVED. THE GIVEN ROWS OF THIS SEAT. 5 by the template 'for every input the law returns true; each argument reads behind the call as it read before'; 0 by the template 'total and deterministic' (their statements: YthjgnnfonofgkaaTotals.lean).
  GIVEN WITH THE SEED: the statements are not yours to turn. If you find one false, say at which input.
  Laid BY PROGRAM, IN A SANDBOX (cutbox-rows.mjs): the forced cells as the released guide's own fill.sh prints them over the translation 6df68f63e2dbf818… (all of the seat's roots in one cut). By AI agents, Wed Nov 11 2026. No macro, syntax, notation, axiom, sorry.
-/
import Derived.Test.YthjgnnfonofgkaaChecked
import GoSem.Claim
import GoSem.ClaimJoined
import GoSem.ClaimMapViews
import Derived.JoinedTies
import Derived.KernelRfl
namespace Go.Proofs.Ythjgnnfonofgkaa
/- THE CELL 'sum', in the pinned program and in every row, IS THE sha256 OF THE DUMP (.gsa) THAT YthjgnnfonofgkaaProg.lean LOADS. Nothing in Lean hashes anything: it is a label: what it is worth is what the hold of that sum in a sandbox is worth. -/
noncomputable def Try.pinned : Pinned := { name := "ythjgnnfonofgkaa", sum := "6df68f63e2dbf818cf2ebfc8c4c8951890e86d6aeb8c747df32e32c65700d5ae", checked := Try.checked }
namespace Rows
def none {H : Type} : Left H := { results := [], args := [] }

/-- 'furrowlaw04.PointsNot': WHATEVER THE INPUT: true; the input reads as it did. -/
def pointsNotSpec : ChangeSpec := { name := "pointsNot", fn := fun _ => fun
  | [d1, d2] => { results := [.lit (.bool true)], args := [d1, d2] }
  | _ => none }
def pointsNotRow : OpenClaim := { program := "ythjgnnfonofgkaa", sum := "6df68f63e2dbf818cf2ebfc8c4c8951890e86d6aeb8c747df32e32c65700d5ae", func := "furrow/furrowlaw04.PointsNot", spec := "pointsNot", inPlace := ["slices.overlaps[furrow/api.Span[string]]", "internal/bytealg.IndexByteString", "internal/bytealg.IndexString", "slices.overlaps[furrow/api.Span[float64]]"], unfollowed := true, recurses := true, named := ["internal/bytealg.MaxLen"], apart := false }
def PointsNotSaid : Prop := pointsNotRow.holds Try.pinned (OpenSpec.ofChange pointsNotSpec)

/-- ITS FALSE NEIGHBOUR: 'it returns false'. Refute it at one input. -/
def pointsNotWrong : ChangeSpec := { name := "pointsNot", fn := fun _ => fun
  | [d1, d2] => { results := [.lit (.bool false)], args := [d1, d2] }
  | _ => none }
def PointsNotWrongFalsely : Prop := pointsNotRow.holds Try.pinned (OpenSpec.ofChange pointsNotWrong)

/-- 'furrowlaw04.PointsByPoint': WHATEVER THE INPUT: true; the input reads as it did. -/
def pointsByPointSpec : ChangeSpec := { name := "pointsByPoint", fn := fun _ => fun
  | [d1, d2] => { results := [.lit (.bool true)], args := [d1, d2] }
  | _ => none }
def pointsByPointRow : OpenClaim := { program := "ythjgnnfonofgkaa", sum := "6df68f63e2dbf818cf2ebfc8c4c8951890e86d6aeb8c747df32e32c65700d5ae", func := "furrow/furrowlaw04.PointsByPoint", spec := "pointsByPoint", inPlace := ["slices.overlaps[furrow/api.Span[string]]", "internal/bytealg.IndexByteString", "internal/bytealg.IndexString", "slices.overlaps[furrow/api.Span[int]]"], unfollowed := true, recurses := true, named := ["internal/bytealg.MaxLen"], apart := false }
def PointsByPointSaid : Prop := pointsByPointRow.holds Try.pinned (OpenSpec.ofChange pointsByPointSpec)

/-- ITS FALSE NEIGHBOUR: 'it returns false'. Refute it at one input. -/
def pointsByPointWrong : ChangeSpec := { name := "pointsByPoint", fn := fun _ => fun
  | [d1, d2] => { results := [.lit (.bool false)], args := [d1, d2] }
  | _ => none }
def PointsByPointWrongFalsely : Prop := pointsByPointRow.holds Try.pinned (OpenSpec.ofChange pointsByPointWrong)

/-- 'furrowlaw04.PointsOneForm': WHATEVER THE INPUT: true; the input reads as it did. -/
def pointsOneFormSpec : ChangeSpec := { name := "pointsOneForm", fn := fun _ => fun
  | [d1, d2] => { results := [.lit (.bool true)], args := [d1, d2] }
  | _ => none }
def pointsOneFormRow : OpenClaim := { program := "ythjgnnfonofgkaa", sum := "6df68f63e2dbf818cf2ebfc8c4c8951890e86d6aeb8c747df32e32c65700d5ae", func := "furrow/furrowlaw04.PointsOneForm", spec := "pointsOneForm", inPlace := ["slices.overlaps[furrow/api.Span[string]]", "internal/bytealg.IndexByteString", "internal/bytealg.IndexString", "slices.overlaps[furrow/api.Span[bool]]"], unfollowed := true, recurses := true, named := ["internal/bytealg.MaxLen"], apart := false }
def PointsOneFormSaid : Prop := pointsOneFormRow.holds Try.pinned (OpenSpec.ofChange pointsOneFormSpec)

/-- ITS FALSE NEIGHBOUR: 'it returns false'. Refute it at one input. -/
def pointsOneFormWrong : ChangeSpec := { name := "pointsOneForm", fn := fun _ => fun
  | [d1, d2] => { results := [.lit (.bool false)], args := [d1, d2] }
  | _ => none }
def PointsOneFormWrongFalsely : Prop := pointsOneFormRow.holds Try.pinned (OpenSpec.ofChange pointsOneFormWrong)

/-- 'furrowlaw04.PointsOver': WHATEVER THE INPUT: true; the input reads as it did. -/
def pointsOverSpec : ChangeSpec := { name := "pointsOver", fn := fun _ => fun
  | [d1, d2, d3, d4] => { results := [.lit (.bool true)], args := [d1, d2, d3, d4] }
  | _ => none }
def pointsOverRow : OpenClaim := { program := "ythjgnnfonofgkaa", sum := "6df68f63e2dbf818cf2ebfc8c4c8951890e86d6aeb8c747df32e32c65700d5ae", func := "furrow/furrowlaw04.PointsOver", spec := "pointsOver", inPlace := ["slices.overlaps[furrow/api.Span[int]]", "slices.overlaps[furrow/api.Span[string]]", "internal/bytealg.IndexByteString", "internal/bytealg.IndexString", "slices.overlaps[furrow/api.Span[bool]]"], unfollowed := true, recurses := true, named := ["internal/bytealg.MaxLen"], apart := false }
def PointsOverSaid : Prop := pointsOverRow.holds Try.pinned (OpenSpec.ofChange pointsOverSpec)

/-- ITS FALSE NEIGHBOUR: 'it returns false'. Refute it at one input. -/
def pointsOverWrong : ChangeSpec := { name := "pointsOver", fn := fun _ => fun
  | [d1, d2, d3, d4] => { results := [.lit (.bool false)], args := [d1, d2, d3, d4] }
  | _ => none }
def PointsOverWrongFalsely : Prop := pointsOverRow.holds Try.pinned (OpenSpec.ofChange pointsOverWrong)

/-- 'furrowlaw04.PointsPlays': WHATEVER THE INPUT: true; the input reads as it did. -/
def pointsPlaysSpec : ChangeSpec := { name := "pointsPlays", fn := fun _ => fun
  | [d] => { results := [.lit (.bool true)], args := [d] }
  | _ => none }
def pointsPlaysRow : OpenClaim := { program := "ythjgnnfonofgkaa", sum := "6df68f63e2dbf818cf2ebfc8c4c8951890e86d6aeb8c747df32e32c65700d5ae", func := "furrow/furrowlaw04.PointsPlays", spec := "pointsPlays", inPlace := ["slices.overlaps[furrow/api.Span[string]]", "internal/bytealg.IndexByteString", "internal/bytealg.IndexString"], unfollowed := true, recurses := true, named := ["internal/bytealg.MaxLen"], apart := false }
def PointsPlaysSaid : Prop := pointsPlaysRow.holds Try.pinned (OpenSpec.ofChange pointsPlaysSpec)

/-- ITS FALSE NEIGHBOUR: 'it returns false'. Refute it at one input. -/
def pointsPlaysWrong : ChangeSpec := { name := "pointsPlays", fn := fun _ => fun
  | [d] => { results := [.lit (.bool false)], args := [d] }
  | _ => none }
def PointsPlaysWrongFalsely : Prop := pointsPlaysRow.holds Try.pinned (OpenSpec.ofChange pointsPlaysWrong)

/- THE SECOND FORM. 'bulk': how many values and letters a reading holds, each counted each time it is reached (what is shared counts as often as it is met; a slice's spare places count too). A statement '..UptoSaid' is the law's where the arguments, and the package variables that the reading takes, are together of bulk at most 1048576: NARROWER than '..Said'. Prove '..Said' where nothing that the law and all that it calls make is longer than what came in: it says more and counts as full. Else prove '..UptoSaid'. A law counts once. -/
mutual
def uptoBulk {H : Type} : DataW H → Nat
  | .lit (.string bytes) => bytes.length + 1
  | .lit _ => 1
  | .nil => 1
  | .ptr d => uptoBulk d + 1
  | .slice elems spare => uptoBulkAll elems + uptoBulkAll spare + 1
  | .agg parts => uptoBulkAll parts + 1
  | .iface _ d => uptoBulk d + 1
  | .map entries => uptoBulkEntries entries + 1
  | .held _ => 1
def uptoBulkAll {H : Type} : List (DataW H) → Nat
  | [] => 0
  | d :: r => uptoBulk d + uptoBulkAll r
def uptoBulkEntries {H : Type} : List (Lit × DataW H) → Nat
  | [] => 0
  | x :: r => uptoBulkEntry x + uptoBulkEntries r
def uptoBulkEntry {H : Type} : Lit × DataW H → Nat
  | (.string bytes, d) => bytes.length + uptoBulk d + 1
  | (_, d) => uptoBulk d + 1
 end
def uptoSmall : (H : Type) → List (DataW H) → Bool := fun _ ds => decide (uptoBulkAll ds ≤ 1048576)
def OpenSpec.upto (s : _root_.Go.ChangeSpec) : _root_.Go.OpenSpec := { _root_.Go.OpenSpec.ofChange s with cond := some uptoSmall }

/-- 'furrowlaw04.PointsNot', WHERE WHAT IT READS IS OF BULK AT MOST 1048576: true; the input reads as it did. -/
def pointsNotUptoRow : OpenClaim := { program := "ythjgnnfonofgkaa", sum := "6df68f63e2dbf818cf2ebfc8c4c8951890e86d6aeb8c747df32e32c65700d5ae", func := "furrow/furrowlaw04.PointsNot", spec := "pointsNot", inPlace := ["slices.overlaps[furrow/api.Span[string]]", "internal/bytealg.IndexByteString", "internal/bytealg.IndexString", "slices.overlaps[furrow/api.Span[float64]]"], unfollowed := true, recurses := true, named := ["internal/bytealg.MaxLen"], apart := false, narrowed := true }
def PointsNotUptoSaid : Prop := pointsNotUptoRow.holds Try.pinned (OpenSpec.upto pointsNotSpec)

/-- 'furrowlaw04.PointsByPoint', WHERE WHAT IT READS IS OF BULK AT MOST 1048576: true; the input reads as it did. -/
def pointsByPointUptoRow : OpenClaim := { program := "ythjgnnfonofgkaa", sum := "6df68f63e2dbf818cf2ebfc8c4c8951890e86d6aeb8c747df32e32c65700d5ae", func := "furrow/furrowlaw04.PointsByPoint", spec := "pointsByPoint", inPlace := ["slices.overlaps[furrow/api.Span[string]]", "internal/bytealg.IndexByteString", "internal/bytealg.IndexString", "slices.overlaps[furrow/api.Span[int]]"], unfollowed := true, recurses := true, named := ["internal/bytealg.MaxLen"], apart := false, narrowed := true }
def PointsByPointUptoSaid : Prop := pointsByPointUptoRow.holds Try.pinned (OpenSpec.upto pointsByPointSpec)

/-- 'furrowlaw04.PointsOneForm', WHERE WHAT IT READS IS OF BULK AT MOST 1048576: true; the input reads as it did. -/
def pointsOneFormUptoRow : OpenClaim := { program := "ythjgnnfonofgkaa", sum := "6df68f63e2dbf818cf2ebfc8c4c8951890e86d6aeb8c747df32e32c65700d5ae", func := "furrow/furrowlaw04.PointsOneForm", spec := "pointsOneForm", inPlace := ["slices.overlaps[furrow/api.Span[string]]", "internal/bytealg.IndexByteString", "internal/bytealg.IndexString", "slices.overlaps[furrow/api.Span[bool]]"], unfollowed := true, recurses := true, named := ["internal/bytealg.MaxLen"], apart := false, narrowed := true }
def PointsOneFormUptoSaid : Prop := pointsOneFormUptoRow.holds Try.pinned (OpenSpec.upto pointsOneFormSpec)

/-- 'furrowlaw04.PointsOver', WHERE WHAT IT READS IS OF BULK AT MOST 1048576: true; the input reads as it did. -/
def pointsOverUptoRow : OpenClaim := { program := "ythjgnnfonofgkaa", sum := "6df68f63e2dbf818cf2ebfc8c4c8951890e86d6aeb8c747df32e32c65700d5ae", func := "furrow/furrowlaw04.PointsOver", spec := "pointsOver", inPlace := ["slices.overlaps[furrow/api.Span[int]]", "slices.overlaps[furrow/api.Span[string]]", "internal/bytealg.IndexByteString", "internal/bytealg.IndexString", "slices.overlaps[furrow/api.Span[bool]]"], unfollowed := true, recurses := true, named := ["internal/bytealg.MaxLen"], apart := false, narrowed := true }
def PointsOverUptoSaid : Prop := pointsOverUptoRow.holds Try.pinned (OpenSpec.upto pointsOverSpec)

/-- 'furrowlaw04.PointsPlays', WHERE WHAT IT READS IS OF BULK AT MOST 1048576: true; the input reads as it did. -/
def pointsPlaysUptoRow : OpenClaim := { program := "ythjgnnfonofgkaa", sum := "6df68f63e2dbf818cf2ebfc8c4c8951890e86d6aeb8c747df32e32c65700d5ae", func := "furrow/furrowlaw04.PointsPlays", spec := "pointsPlays", inPlace := ["slices.overlaps[furrow/api.Span[string]]", "internal/bytealg.IndexByteString", "internal/bytealg.IndexString"], unfollowed := true, recurses := true, named := ["internal/bytealg.MaxLen"], apart := false, narrowed := true }
def PointsPlaysUptoSaid : Prop := pointsPlaysUptoRow.holds Try.pinned (OpenSpec.upto pointsPlaysSpec)

end Rows
end Go.Proofs.Ythjgnnfonofgkaa
