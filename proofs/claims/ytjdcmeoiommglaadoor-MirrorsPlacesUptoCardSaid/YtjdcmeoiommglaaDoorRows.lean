/-
  NARROWER THAN 'FOR EVERY INPUT', by the rows' own cells (each row's printed sentence says how): MirrorsScans: laid · MirrorsTexts: laid · MirrorsNames: laid · MirrorsOf: laid · MirrorsTwice: laid · MirrorsPlaces: laid · MirrorsChecks: laid · MirrorsBack: laid · MirrorsAgain: laid.
  DERIVED. THE GIVEN ROWS OF THIS SEAT. 9 by the template 'for every input the law returns true; each argument reads behind the call as it read before'; 0 by the template 'total and deterministic' (their statements: YtjdcmeoiommglaaDoorTotals.lean).
  GIVEN WITH THE SEED: the statements are not yours to turn. If you find one false, say at which input.
  Laid BY PROGRAM, IN A SANDBOX (cutbox-rows.mjs): the forced cells as the released guide's own fill.sh prints them over the translation dea58f3d2d19f355… (all of the seat's roots in one cut). By AI agents, Wed Nov 11 2026. No macro, syntax, notation, axiom, sorry.
-/
import Derived.Test.YtjdcmeoiommglaaDoorChecked
import GoSem.PinnedTables
import GoSem.Claim
import GoSem.ClaimJoined
import GoSem.ClaimMapViews
import Derived.JoinedTies
import Derived.KernelRfl
namespace Go.Proofs.YtjdcmeoiommglaaDoor
/- THE CELL 'sum', in the pinned program and in every row, IS THE sha256 OF THE DUMP (.gsa) THAT YtjdcmeoiommglaaDoorProg.lean LOADS. Nothing in Lean hashes anything: it is a label: what it is worth is what the hold of that sum in a sandbox is worth. -/
noncomputable def Tryd.pinned : Pinned := { name := "ytjdcmeoiommglaadoor", sum := "dea58f3d2d19f355fa2d20371f3eec19f5f329bcea22d9fa8b25a117e334351e", checked := Tryd.checked }
namespace Rows
def none {H : Type} : Left H := { results := [], args := [] }

/- WHAT THE LISTED PACKAGE-LEVEL VARIABLES READ AS WHEN THE CALL BEGINS. Each datum BY PROGRAM (the guide's laid-datum.mjs) off the statement by which the dump's own 'gosem.cut.vars' lays the variable. In a bare row this is a premise. The card (YtjdcmeoiommglaaDoorCards.lean) ties it to the program's text. -/
def laid_unicode_utf8_acceptRanges {H : Type} : DataW H := .agg [.agg [.lit (.int .u8 128), .lit (.int .u8 191)], .agg [.lit (.int .u8 160), .lit (.int .u8 191)], .agg [.lit (.int .u8 128), .lit (.int .u8 159)], .agg [.lit (.int .u8 144), .lit (.int .u8 191)], .agg [.lit (.int .u8 128), .lit (.int .u8 143)], .agg [.lit (.int .u8 0), .lit (.int .u8 0)], .agg [.lit (.int .u8 0), .lit (.int .u8 0)], .agg [.lit (.int .u8 0), .lit (.int .u8 0)], .agg [.lit (.int .u8 0), .lit (.int .u8 0)], .agg [.lit (.int .u8 0), .lit (.int .u8 0)], .agg [.lit (.int .u8 0), .lit (.int .u8 0)], .agg [.lit (.int .u8 0), .lit (.int .u8 0)], .agg [.lit (.int .u8 0), .lit (.int .u8 0)], .agg [.lit (.int .u8 0), .lit (.int .u8 0)], .agg [.lit (.int .u8 0), .lit (.int .u8 0)], .agg [.lit (.int .u8 0), .lit (.int .u8 0)]]
def laid_errors_errorType {H : Type} : DataW H := .iface "internal/reflectlite.rtype" (.agg [.ptr (.lit (.string [101, 114, 114, 111, 114]))])
/-- One of Go's own tables, pinned by name: the form's constant. -/
def laid_unicode_utf8_first : DataW Unit := Go.Pinned.utf8First

/-- 'furrowlaw09.MirrorsScans': WHATEVER THE INPUT: true; the input reads as it did. -/
def mirrorsScansSpec : ChangeSpec := { name := "mirrorsScans", fn := fun _ => fun
  | [d] => { results := [.lit (.bool true)], args := [d] }
  | _ => none }
def mirrorsScansRow : OpenClaim := { program := "ytjdcmeoiommglaadoor", sum := "dea58f3d2d19f355fa2d20371f3eec19f5f329bcea22d9fa8b25a117e334351e", func := "furrow/furrowlaw09.MirrorsScans", spec := "mirrorsScans", inPlace := ["internal/bytealg.IndexByteString", "internal/bytealg.IndexString", "internal/abi.NoEscape", "internal/reflectlite.ValueOf", "(internal/reflectlite.Value).Type", "(internal/reflectlite.Value).IsNil", "internal/reflectlite.TypeOf", "(internal/reflectlite.Value).Elem", "(internal/reflectlite.Value).Set"], unfollowed := true, recurses := true, named := ["internal/bytealg.MaxLen", "unicode/utf8.first", "unicode/utf8.acceptRanges", "errors.errorType"], apart := false, laid := [("unicode/utf8.acceptRanges", laid_unicode_utf8_acceptRanges), ("errors.errorType", laid_errors_errorType), ("unicode/utf8.first", laid_unicode_utf8_first)] }
def MirrorsScansSaid : Prop := mirrorsScansRow.holds Tryd.pinned (OpenSpec.ofChange mirrorsScansSpec)

/-- ITS FALSE NEIGHBOUR: 'it returns false'. Refute it at one input. -/
def mirrorsScansWrong : ChangeSpec := { name := "mirrorsScans", fn := fun _ => fun
  | [d] => { results := [.lit (.bool false)], args := [d] }
  | _ => none }
def MirrorsScansWrongFalsely : Prop := mirrorsScansRow.holds Tryd.pinned (OpenSpec.ofChange mirrorsScansWrong)

/-- 'furrowlaw09.MirrorsTexts': WHATEVER THE INPUT: true; the input reads as it did. -/
def mirrorsTextsSpec : ChangeSpec := { name := "mirrorsTexts", fn := fun _ => fun
  | [d1, d2] => { results := [.lit (.bool true)], args := [d1, d2] }
  | _ => none }
def mirrorsTextsRow : OpenClaim := { program := "ytjdcmeoiommglaadoor", sum := "dea58f3d2d19f355fa2d20371f3eec19f5f329bcea22d9fa8b25a117e334351e", func := "furrow/furrowlaw09.MirrorsTexts", spec := "mirrorsTexts", inPlace := ["internal/bytealg.IndexByteString", "internal/bytealg.IndexString", "internal/abi.NoEscape", "internal/reflectlite.ValueOf", "(internal/reflectlite.Value).Type", "(internal/reflectlite.Value).IsNil", "internal/reflectlite.TypeOf", "(internal/reflectlite.Value).Elem", "(internal/reflectlite.Value).Set"], unfollowed := true, recurses := true, named := ["internal/bytealg.MaxLen", "unicode/utf8.first", "unicode/utf8.acceptRanges", "errors.errorType"], apart := false, laid := [("unicode/utf8.acceptRanges", laid_unicode_utf8_acceptRanges), ("errors.errorType", laid_errors_errorType), ("unicode/utf8.first", laid_unicode_utf8_first)] }
def MirrorsTextsSaid : Prop := mirrorsTextsRow.holds Tryd.pinned (OpenSpec.ofChange mirrorsTextsSpec)

/-- ITS FALSE NEIGHBOUR: 'it returns false'. Refute it at one input. -/
def mirrorsTextsWrong : ChangeSpec := { name := "mirrorsTexts", fn := fun _ => fun
  | [d1, d2] => { results := [.lit (.bool false)], args := [d1, d2] }
  | _ => none }
def MirrorsTextsWrongFalsely : Prop := mirrorsTextsRow.holds Tryd.pinned (OpenSpec.ofChange mirrorsTextsWrong)

/-- 'furrowlaw09.MirrorsNames': WHATEVER THE INPUT: true; the input reads as it did. -/
def mirrorsNamesSpec : ChangeSpec := { name := "mirrorsNames", fn := fun _ => fun
  | [] => { results := [.lit (.bool true)], args := [] }
  | _ => none }
def mirrorsNamesRow : OpenClaim := { program := "ytjdcmeoiommglaadoor", sum := "dea58f3d2d19f355fa2d20371f3eec19f5f329bcea22d9fa8b25a117e334351e", func := "furrow/furrowlaw09.MirrorsNames", spec := "mirrorsNames", inPlace := ["internal/bytealg.IndexByteString", "internal/bytealg.IndexString", "internal/abi.NoEscape", "internal/reflectlite.ValueOf", "(internal/reflectlite.Value).Type", "(internal/reflectlite.Value).IsNil", "internal/reflectlite.TypeOf", "(internal/reflectlite.Value).Elem", "(internal/reflectlite.Value).Set"], unfollowed := true, recurses := true, named := ["internal/bytealg.MaxLen", "unicode/utf8.first", "unicode/utf8.acceptRanges", "errors.errorType"], apart := false, laid := [("unicode/utf8.acceptRanges", laid_unicode_utf8_acceptRanges), ("errors.errorType", laid_errors_errorType), ("unicode/utf8.first", laid_unicode_utf8_first)] }
def MirrorsNamesSaid : Prop := mirrorsNamesRow.holds Tryd.pinned (OpenSpec.ofChange mirrorsNamesSpec)

/-- ITS FALSE NEIGHBOUR: 'it returns false'. Refute it at one input. -/
def mirrorsNamesWrong : ChangeSpec := { name := "mirrorsNames", fn := fun _ => fun
  | [] => { results := [.lit (.bool false)], args := [] }
  | _ => none }
def MirrorsNamesWrongFalsely : Prop := mirrorsNamesRow.holds Tryd.pinned (OpenSpec.ofChange mirrorsNamesWrong)

/-- 'furrowlaw09.MirrorsOf': WHATEVER THE INPUT: true; the input reads as it did. -/
def mirrorsOfSpec : ChangeSpec := { name := "mirrorsOf", fn := fun _ => fun
  | [d1, d2] => { results := [.lit (.bool true)], args := [d1, d2] }
  | _ => none }
def mirrorsOfRow : OpenClaim := { program := "ytjdcmeoiommglaadoor", sum := "dea58f3d2d19f355fa2d20371f3eec19f5f329bcea22d9fa8b25a117e334351e", func := "furrow/furrowlaw09.MirrorsOf", spec := "mirrorsOf", inPlace := ["internal/bytealg.IndexByteString", "internal/bytealg.IndexString", "internal/abi.NoEscape", "internal/reflectlite.ValueOf", "(internal/reflectlite.Value).Type", "(internal/reflectlite.Value).IsNil", "internal/reflectlite.TypeOf", "(internal/reflectlite.Value).Elem", "(internal/reflectlite.Value).Set"], unfollowed := true, recurses := true, named := ["internal/bytealg.MaxLen", "unicode/utf8.first", "unicode/utf8.acceptRanges", "errors.errorType"], apart := false, laid := [("unicode/utf8.acceptRanges", laid_unicode_utf8_acceptRanges), ("errors.errorType", laid_errors_errorType), ("unicode/utf8.first", laid_unicode_utf8_first)] }
def MirrorsOfSaid : Prop := mirrorsOfRow.holds Tryd.pinned (OpenSpec.ofChange mirrorsOfSpec)

/-- ITS FALSE NEIGHBOUR: 'it returns false'. Refute it at one input. -/
def mirrorsOfWrong : ChangeSpec := { name := "mirrorsOf", fn := fun _ => fun
  | [d1, d2] => { results := [.lit (.bool false)], args := [d1, d2] }
  | _ => none }
def MirrorsOfWrongFalsely : Prop := mirrorsOfRow.holds Tryd.pinned (OpenSpec.ofChange mirrorsOfWrong)

/-- 'furrowlaw09.MirrorsTwice': WHATEVER THE INPUT: true; the input reads as it did. -/
def mirrorsTwiceSpec : ChangeSpec := { name := "mirrorsTwice", fn := fun _ => fun
  | [d1, d2, d3] => { results := [.lit (.bool true)], args := [d1, d2, d3] }
  | _ => none }
def mirrorsTwiceRow : OpenClaim := { program := "ytjdcmeoiommglaadoor", sum := "dea58f3d2d19f355fa2d20371f3eec19f5f329bcea22d9fa8b25a117e334351e", func := "furrow/furrowlaw09.MirrorsTwice", spec := "mirrorsTwice", inPlace := ["internal/bytealg.IndexByteString", "internal/bytealg.IndexString", "internal/abi.NoEscape", "internal/reflectlite.ValueOf", "(internal/reflectlite.Value).Type", "(internal/reflectlite.Value).IsNil", "internal/reflectlite.TypeOf", "(internal/reflectlite.Value).Elem", "(internal/reflectlite.Value).Set"], unfollowed := true, recurses := true, named := ["internal/bytealg.MaxLen", "unicode/utf8.first", "unicode/utf8.acceptRanges", "errors.errorType"], apart := false, laid := [("unicode/utf8.acceptRanges", laid_unicode_utf8_acceptRanges), ("errors.errorType", laid_errors_errorType), ("unicode/utf8.first", laid_unicode_utf8_first)] }
def MirrorsTwiceSaid : Prop := mirrorsTwiceRow.holds Tryd.pinned (OpenSpec.ofChange mirrorsTwiceSpec)

/-- ITS FALSE NEIGHBOUR: 'it returns false'. Refute it at one input. -/
def mirrorsTwiceWrong : ChangeSpec := { name := "mirrorsTwice", fn := fun _ => fun
  | [d1, d2, d3] => { results := [.lit (.bool false)], args := [d1, d2, d3] }
  | _ => none }
def MirrorsTwiceWrongFalsely : Prop := mirrorsTwiceRow.holds Tryd.pinned (OpenSpec.ofChange mirrorsTwiceWrong)

/-- 'furrowlaw09.MirrorsPlaces': WHATEVER THE INPUT: true; the input reads as it did. -/
def mirrorsPlacesSpec : ChangeSpec := { name := "mirrorsPlaces", fn := fun _ => fun
  | [d1, d2] => { results := [.lit (.bool true)], args := [d1, d2] }
  | _ => none }
def mirrorsPlacesRow : OpenClaim := { program := "ytjdcmeoiommglaadoor", sum := "dea58f3d2d19f355fa2d20371f3eec19f5f329bcea22d9fa8b25a117e334351e", func := "furrow/furrowlaw09.MirrorsPlaces", spec := "mirrorsPlaces", inPlace := ["internal/abi.NoEscape", "internal/bytealg.IndexByteString", "internal/bytealg.IndexString", "internal/reflectlite.ValueOf", "(internal/reflectlite.Value).Type", "(internal/reflectlite.Value).IsNil", "internal/reflectlite.TypeOf", "(internal/reflectlite.Value).Elem", "(internal/reflectlite.Value).Set"], unfollowed := true, recurses := true, named := ["internal/bytealg.MaxLen", "unicode/utf8.first", "unicode/utf8.acceptRanges", "errors.errorType"], apart := false, laid := [("unicode/utf8.acceptRanges", laid_unicode_utf8_acceptRanges), ("errors.errorType", laid_errors_errorType), ("unicode/utf8.first", laid_unicode_utf8_first)] }
def MirrorsPlacesSaid : Prop := mirrorsPlacesRow.holds Tryd.pinned (OpenSpec.ofChange mirrorsPlacesSpec)

/-- ITS FALSE NEIGHBOUR: 'it returns false'. Refute it at one input. -/
def mirrorsPlacesWrong : ChangeSpec := { name := "mirrorsPlaces", fn := fun _ => fun
  | [d1, d2] => { results := [.lit (.bool false)], args := [d1, d2] }
  | _ => none }
def MirrorsPlacesWrongFalsely : Prop := mirrorsPlacesRow.holds Tryd.pinned (OpenSpec.ofChange mirrorsPlacesWrong)

/-- 'furrowlaw09.MirrorsChecks': WHATEVER THE INPUT: true; the input reads as it did. -/
def mirrorsChecksSpec : ChangeSpec := { name := "mirrorsChecks", fn := fun _ => fun
  | [d] => { results := [.lit (.bool true)], args := [d] }
  | _ => none }
def mirrorsChecksRow : OpenClaim := { program := "ytjdcmeoiommglaadoor", sum := "dea58f3d2d19f355fa2d20371f3eec19f5f329bcea22d9fa8b25a117e334351e", func := "furrow/furrowlaw09.MirrorsChecks", spec := "mirrorsChecks", inPlace := ["internal/bytealg.IndexByteString", "internal/bytealg.IndexString", "internal/abi.NoEscape", "internal/reflectlite.ValueOf", "(internal/reflectlite.Value).Type", "(internal/reflectlite.Value).IsNil", "internal/reflectlite.TypeOf", "(internal/reflectlite.Value).Elem", "(internal/reflectlite.Value).Set"], unfollowed := true, recurses := true, named := ["internal/bytealg.MaxLen", "unicode/utf8.first", "unicode/utf8.acceptRanges", "errors.errorType"], apart := false, laid := [("unicode/utf8.acceptRanges", laid_unicode_utf8_acceptRanges), ("errors.errorType", laid_errors_errorType), ("unicode/utf8.first", laid_unicode_utf8_first)] }
def MirrorsChecksSaid : Prop := mirrorsChecksRow.holds Tryd.pinned (OpenSpec.ofChange mirrorsChecksSpec)

/-- ITS FALSE NEIGHBOUR: 'it returns false'. Refute it at one input. -/
def mirrorsChecksWrong : ChangeSpec := { name := "mirrorsChecks", fn := fun _ => fun
  | [d] => { results := [.lit (.bool false)], args := [d] }
  | _ => none }
def MirrorsChecksWrongFalsely : Prop := mirrorsChecksRow.holds Tryd.pinned (OpenSpec.ofChange mirrorsChecksWrong)

/-- 'furrowlaw09.MirrorsBack': WHATEVER THE INPUT: true; the input reads as it did. -/
def mirrorsBackSpec : ChangeSpec := { name := "mirrorsBack", fn := fun _ => fun
  | [d] => { results := [.lit (.bool true)], args := [d] }
  | _ => none }
def mirrorsBackRow : OpenClaim := { program := "ytjdcmeoiommglaadoor", sum := "dea58f3d2d19f355fa2d20371f3eec19f5f329bcea22d9fa8b25a117e334351e", func := "furrow/furrowlaw09.MirrorsBack", spec := "mirrorsBack", inPlace := ["internal/bytealg.IndexByteString", "internal/bytealg.IndexString", "internal/abi.NoEscape", "internal/reflectlite.ValueOf", "(internal/reflectlite.Value).Type", "(internal/reflectlite.Value).IsNil", "internal/reflectlite.TypeOf", "(internal/reflectlite.Value).Elem", "(internal/reflectlite.Value).Set"], unfollowed := true, recurses := true, named := ["internal/bytealg.MaxLen", "unicode/utf8.first", "unicode/utf8.acceptRanges", "errors.errorType"], apart := false, laid := [("unicode/utf8.acceptRanges", laid_unicode_utf8_acceptRanges), ("errors.errorType", laid_errors_errorType), ("unicode/utf8.first", laid_unicode_utf8_first)] }
def MirrorsBackSaid : Prop := mirrorsBackRow.holds Tryd.pinned (OpenSpec.ofChange mirrorsBackSpec)

/-- ITS FALSE NEIGHBOUR: 'it returns false'. Refute it at one input. -/
def mirrorsBackWrong : ChangeSpec := { name := "mirrorsBack", fn := fun _ => fun
  | [d] => { results := [.lit (.bool false)], args := [d] }
  | _ => none }
def MirrorsBackWrongFalsely : Prop := mirrorsBackRow.holds Tryd.pinned (OpenSpec.ofChange mirrorsBackWrong)

/-- 'furrowlaw09.MirrorsAgain': WHATEVER THE INPUT: true; the input reads as it did. -/
def mirrorsAgainSpec : ChangeSpec := { name := "mirrorsAgain", fn := fun _ => fun
  | [d] => { results := [.lit (.bool true)], args := [d] }
  | _ => none }
def mirrorsAgainRow : OpenClaim := { program := "ytjdcmeoiommglaadoor", sum := "dea58f3d2d19f355fa2d20371f3eec19f5f329bcea22d9fa8b25a117e334351e", func := "furrow/furrowlaw09.MirrorsAgain", spec := "mirrorsAgain", inPlace := ["internal/bytealg.IndexByteString", "internal/bytealg.IndexString", "internal/abi.NoEscape", "internal/reflectlite.ValueOf", "(internal/reflectlite.Value).Type", "(internal/reflectlite.Value).IsNil", "internal/reflectlite.TypeOf", "(internal/reflectlite.Value).Elem", "(internal/reflectlite.Value).Set"], unfollowed := true, recurses := true, named := ["internal/bytealg.MaxLen", "unicode/utf8.first", "unicode/utf8.acceptRanges", "errors.errorType"], apart := false, laid := [("unicode/utf8.acceptRanges", laid_unicode_utf8_acceptRanges), ("errors.errorType", laid_errors_errorType), ("unicode/utf8.first", laid_unicode_utf8_first)] }
def MirrorsAgainSaid : Prop := mirrorsAgainRow.holds Tryd.pinned (OpenSpec.ofChange mirrorsAgainSpec)

/-- ITS FALSE NEIGHBOUR: 'it returns false'. Refute it at one input. -/
def mirrorsAgainWrong : ChangeSpec := { name := "mirrorsAgain", fn := fun _ => fun
  | [d] => { results := [.lit (.bool false)], args := [d] }
  | _ => none }
def MirrorsAgainWrongFalsely : Prop := mirrorsAgainRow.holds Tryd.pinned (OpenSpec.ofChange mirrorsAgainWrong)

/- THE SECOND FORM. 'bulk': how many values and letters a reading holds, each counted each time it is reached (what is shared counts as often as it is met; a slice's spare places count too). A statement '..UptoSaid' is the law's where the arguments, and the package variables that the reading takes, are together of bulk at most 1048576: NARROWER than '..Said'. Prove '..Said' where nothing that the law and all that it calls make is longer than what came in: it says more and counts as full. Else prove '..UptoSaid'. A law counts once. -/
mutual
def uptoBulk {H : Type} : DataW H → Nat
  | .lit (.string bytes) => bytes.length + 1
  | .lit _ => 1
  | .nil => 1
  | .ptr d => uptoBulk d + 1
  | .slice elems spare => uptoBulkAll elems + uptoBulkAll spare + 1
  | .agg parts => uptoBulkAll parts + 1
  | .iface _ d => uptoBulk d + 1
  | .map entries => uptoBulkEntries entries + 1
  | .held _ => 1
def uptoBulkAll {H : Type} : List (DataW H) → Nat
  | [] => 0
  | d :: r => uptoBulk d + uptoBulkAll r
def uptoBulkEntries {H : Type} : List (Lit × DataW H) → Nat
  | [] => 0
  | x :: r => uptoBulkEntry x + uptoBulkEntries r
def uptoBulkEntry {H : Type} : Lit × DataW H → Nat
  | (.string bytes, d) => bytes.length + uptoBulk d + 1
  | (_, d) => uptoBulk d + 1
 end
def uptoSmall : (H : Type) → List (DataW H) → Bool := fun _ ds => decide (uptoBulkAll ds ≤ 1048576)
def OpenSpec.upto (s : _root_.Go.ChangeSpec) : _root_.Go.OpenSpec := { _root_.Go.OpenSpec.ofChange s with cond := some uptoSmall }

/-- 'furrowlaw09.MirrorsScans', WHERE WHAT IT READS IS OF BULK AT MOST 1048576: true; the input reads as it did. -/
def mirrorsScansUptoRow : OpenClaim := { program := "ytjdcmeoiommglaadoor", sum := "dea58f3d2d19f355fa2d20371f3eec19f5f329bcea22d9fa8b25a117e334351e", func := "furrow/furrowlaw09.MirrorsScans", spec := "mirrorsScans", inPlace := ["internal/bytealg.IndexByteString", "internal/bytealg.IndexString", "internal/abi.NoEscape", "internal/reflectlite.ValueOf", "(internal/reflectlite.Value).Type", "(internal/reflectlite.Value).IsNil", "internal/reflectlite.TypeOf", "(internal/reflectlite.Value).Elem", "(internal/reflectlite.Value).Set"], unfollowed := true, recurses := true, named := ["internal/bytealg.MaxLen", "unicode/utf8.first", "unicode/utf8.acceptRanges", "errors.errorType"], apart := false, laid := [("unicode/utf8.acceptRanges", laid_unicode_utf8_acceptRanges), ("errors.errorType", laid_errors_errorType), ("unicode/utf8.first", laid_unicode_utf8_first)], narrowed := true }
def MirrorsScansUptoSaid : Prop := mirrorsScansUptoRow.holds Tryd.pinned (OpenSpec.upto mirrorsScansSpec)

/-- 'furrowlaw09.MirrorsTexts', WHERE WHAT IT READS IS OF BULK AT MOST 1048576: true; the input reads as it did. -/
def mirrorsTextsUptoRow : OpenClaim := { program := "ytjdcmeoiommglaadoor", sum := "dea58f3d2d19f355fa2d20371f3eec19f5f329bcea22d9fa8b25a117e334351e", func := "furrow/furrowlaw09.MirrorsTexts", spec := "mirrorsTexts", inPlace := ["internal/bytealg.IndexByteString", "internal/bytealg.IndexString", "internal/abi.NoEscape", "internal/reflectlite.ValueOf", "(internal/reflectlite.Value).Type", "(internal/reflectlite.Value).IsNil", "internal/reflectlite.TypeOf", "(internal/reflectlite.Value).Elem", "(internal/reflectlite.Value).Set"], unfollowed := true, recurses := true, named := ["internal/bytealg.MaxLen", "unicode/utf8.first", "unicode/utf8.acceptRanges", "errors.errorType"], apart := false, laid := [("unicode/utf8.acceptRanges", laid_unicode_utf8_acceptRanges), ("errors.errorType", laid_errors_errorType), ("unicode/utf8.first", laid_unicode_utf8_first)], narrowed := true }
def MirrorsTextsUptoSaid : Prop := mirrorsTextsUptoRow.holds Tryd.pinned (OpenSpec.upto mirrorsTextsSpec)

/-- 'furrowlaw09.MirrorsNames', WHERE WHAT IT READS IS OF BULK AT MOST 1048576: true; the input reads as it did. -/
def mirrorsNamesUptoRow : OpenClaim := { program := "ytjdcmeoiommglaadoor", sum := "dea58f3d2d19f355fa2d20371f3eec19f5f329bcea22d9fa8b25a117e334351e", func := "furrow/furrowlaw09.MirrorsNames", spec := "mirrorsNames", inPlace := ["internal/bytealg.IndexByteString", "internal/bytealg.IndexString", "internal/abi.NoEscape", "internal/reflectlite.ValueOf", "(internal/reflectlite.Value).Type", "(internal/reflectlite.Value).IsNil", "internal/reflectlite.TypeOf", "(internal/reflectlite.Value).Elem", "(internal/reflectlite.Value).Set"], unfollowed := true, recurses := true, named := ["internal/bytealg.MaxLen", "unicode/utf8.first", "unicode/utf8.acceptRanges", "errors.errorType"], apart := false, laid := [("unicode/utf8.acceptRanges", laid_unicode_utf8_acceptRanges), ("errors.errorType", laid_errors_errorType), ("unicode/utf8.first", laid_unicode_utf8_first)], narrowed := true }
def MirrorsNamesUptoSaid : Prop := mirrorsNamesUptoRow.holds Tryd.pinned (OpenSpec.upto mirrorsNamesSpec)

/-- 'furrowlaw09.MirrorsOf', WHERE WHAT IT READS IS OF BULK AT MOST 1048576: true; the input reads as it did. -/
def mirrorsOfUptoRow : OpenClaim := { program := "ytjdcmeoiommglaadoor", sum := "dea58f3d2d19f355fa2d20371f3eec19f5f329bcea22d9fa8b25a117e334351e", func := "furrow/furrowlaw09.MirrorsOf", spec := "mirrorsOf", inPlace := ["internal/bytealg.IndexByteString", "internal/bytealg.IndexString", "internal/abi.NoEscape", "internal/reflectlite.ValueOf", "(internal/reflectlite.Value).Type", "(internal/reflectlite.Value).IsNil", "internal/reflectlite.TypeOf", "(internal/reflectlite.Value).Elem", "(internal/reflectlite.Value).Set"], unfollowed := true, recurses := true, named := ["internal/bytealg.MaxLen", "unicode/utf8.first", "unicode/utf8.acceptRanges", "errors.errorType"], apart := false, laid := [("unicode/utf8.acceptRanges", laid_unicode_utf8_acceptRanges), ("errors.errorType", laid_errors_errorType), ("unicode/utf8.first", laid_unicode_utf8_first)], narrowed := true }
def MirrorsOfUptoSaid : Prop := mirrorsOfUptoRow.holds Tryd.pinned (OpenSpec.upto mirrorsOfSpec)

/-- 'furrowlaw09.MirrorsTwice', WHERE WHAT IT READS IS OF BULK AT MOST 1048576: true; the input reads as it did. -/
def mirrorsTwiceUptoRow : OpenClaim := { program := "ytjdcmeoiommglaadoor", sum := "dea58f3d2d19f355fa2d20371f3eec19f5f329bcea22d9fa8b25a117e334351e", func := "furrow/furrowlaw09.MirrorsTwice", spec := "mirrorsTwice", inPlace := ["internal/bytealg.IndexByteString", "internal/bytealg.IndexString", "internal/abi.NoEscape", "internal/reflectlite.ValueOf", "(internal/reflectlite.Value).Type", "(internal/reflectlite.Value).IsNil", "internal/reflectlite.TypeOf", "(internal/reflectlite.Value).Elem", "(internal/reflectlite.Value).Set"], unfollowed := true, recurses := true, named := ["internal/bytealg.MaxLen", "unicode/utf8.first", "unicode/utf8.acceptRanges", "errors.errorType"], apart := false, laid := [("unicode/utf8.acceptRanges", laid_unicode_utf8_acceptRanges), ("errors.errorType", laid_errors_errorType), ("unicode/utf8.first", laid_unicode_utf8_first)], narrowed := true }
def MirrorsTwiceUptoSaid : Prop := mirrorsTwiceUptoRow.holds Tryd.pinned (OpenSpec.upto mirrorsTwiceSpec)

/-- 'furrowlaw09.MirrorsPlaces', WHERE WHAT IT READS IS OF BULK AT MOST 1048576: true; the input reads as it did. -/
def mirrorsPlacesUptoRow : OpenClaim := { program := "ytjdcmeoiommglaadoor", sum := "dea58f3d2d19f355fa2d20371f3eec19f5f329bcea22d9fa8b25a117e334351e", func := "furrow/furrowlaw09.MirrorsPlaces", spec := "mirrorsPlaces", inPlace := ["internal/abi.NoEscape", "internal/bytealg.IndexByteString", "internal/bytealg.IndexString", "internal/reflectlite.ValueOf", "(internal/reflectlite.Value).Type", "(internal/reflectlite.Value).IsNil", "internal/reflectlite.TypeOf", "(internal/reflectlite.Value).Elem", "(internal/reflectlite.Value).Set"], unfollowed := true, recurses := true, named := ["internal/bytealg.MaxLen", "unicode/utf8.first", "unicode/utf8.acceptRanges", "errors.errorType"], apart := false, laid := [("unicode/utf8.acceptRanges", laid_unicode_utf8_acceptRanges), ("errors.errorType", laid_errors_errorType), ("unicode/utf8.first", laid_unicode_utf8_first)], narrowed := true }
def MirrorsPlacesUptoSaid : Prop := mirrorsPlacesUptoRow.holds Tryd.pinned (OpenSpec.upto mirrorsPlacesSpec)

/-- 'furrowlaw09.MirrorsChecks', WHERE WHAT IT READS IS OF BULK AT MOST 1048576: true; the input reads as it did. -/
def mirrorsChecksUptoRow : OpenClaim := { program := "ytjdcmeoiommglaadoor", sum := "dea58f3d2d19f355fa2d20371f3eec19f5f329bcea22d9fa8b25a117e334351e", func := "furrow/furrowlaw09.MirrorsChecks", spec := "mirrorsChecks", inPlace := ["internal/bytealg.IndexByteString", "internal/bytealg.IndexString", "internal/abi.NoEscape", "internal/reflectlite.ValueOf", "(internal/reflectlite.Value).Type", "(internal/reflectlite.Value).IsNil", "internal/reflectlite.TypeOf", "(internal/reflectlite.Value).Elem", "(internal/reflectlite.Value).Set"], unfollowed := true, recurses := true, named := ["internal/bytealg.MaxLen", "unicode/utf8.first", "unicode/utf8.acceptRanges", "errors.errorType"], apart := false, laid := [("unicode/utf8.acceptRanges", laid_unicode_utf8_acceptRanges), ("errors.errorType", laid_errors_errorType), ("unicode/utf8.first", laid_unicode_utf8_first)], narrowed := true }
def MirrorsChecksUptoSaid : Prop := mirrorsChecksUptoRow.holds Tryd.pinned (OpenSpec.upto mirrorsChecksSpec)

/-- 'furrowlaw09.MirrorsBack', WHERE WHAT IT READS IS OF BULK AT MOST 1048576: true; the input reads as it did. -/
def mirrorsBackUptoRow : OpenClaim := { program := "ytjdcmeoiommglaadoor", sum := "dea58f3d2d19f355fa2d20371f3eec19f5f329bcea22d9fa8b25a117e334351e", func := "furrow/furrowlaw09.MirrorsBack", spec := "mirrorsBack", inPlace := ["internal/bytealg.IndexByteString", "internal/bytealg.IndexString", "internal/abi.NoEscape", "internal/reflectlite.ValueOf", "(internal/reflectlite.Value).Type", "(internal/reflectlite.Value).IsNil", "internal/reflectlite.TypeOf", "(internal/reflectlite.Value).Elem", "(internal/reflectlite.Value).Set"], unfollowed := true, recurses := true, named := ["internal/bytealg.MaxLen", "unicode/utf8.first", "unicode/utf8.acceptRanges", "errors.errorType"], apart := false, laid := [("unicode/utf8.acceptRanges", laid_unicode_utf8_acceptRanges), ("errors.errorType", laid_errors_errorType), ("unicode/utf8.first", laid_unicode_utf8_first)], narrowed := true }
def MirrorsBackUptoSaid : Prop := mirrorsBackUptoRow.holds Tryd.pinned (OpenSpec.upto mirrorsBackSpec)

/-- 'furrowlaw09.MirrorsAgain', WHERE WHAT IT READS IS OF BULK AT MOST 1048576: true; the input reads as it did. -/
def mirrorsAgainUptoRow : OpenClaim := { program := "ytjdcmeoiommglaadoor", sum := "dea58f3d2d19f355fa2d20371f3eec19f5f329bcea22d9fa8b25a117e334351e", func := "furrow/furrowlaw09.MirrorsAgain", spec := "mirrorsAgain", inPlace := ["internal/bytealg.IndexByteString", "internal/bytealg.IndexString", "internal/abi.NoEscape", "internal/reflectlite.ValueOf", "(internal/reflectlite.Value).Type", "(internal/reflectlite.Value).IsNil", "internal/reflectlite.TypeOf", "(internal/reflectlite.Value).Elem", "(internal/reflectlite.Value).Set"], unfollowed := true, recurses := true, named := ["internal/bytealg.MaxLen", "unicode/utf8.first", "unicode/utf8.acceptRanges", "errors.errorType"], apart := false, laid := [("unicode/utf8.acceptRanges", laid_unicode_utf8_acceptRanges), ("errors.errorType", laid_errors_errorType), ("unicode/utf8.first", laid_unicode_utf8_first)], narrowed := true }
def MirrorsAgainUptoSaid : Prop := mirrorsAgainUptoRow.holds Tryd.pinned (OpenSpec.upto mirrorsAgainSpec)

end Rows
end Go.Proofs.YtjdcmeoiommglaaDoor
