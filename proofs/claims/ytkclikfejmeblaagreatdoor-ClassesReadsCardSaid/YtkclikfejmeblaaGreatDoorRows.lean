/-
  NARROWER THAN 'FOR EVERY INPUT', by the rows' own cells (each row's printed sentence says how): ClassesNames: laid · ClassesWhole: laid · ClassesNotes: laid · ClassesNone: laid · ClassesBack: laid · ClassesReads: laid.
  DERIVED. THE GIVEN ROWS OF THIS SEAT. 6 by the template 'for every input the law returns true; each argument reads behind the call as it read before'; 0 by the template 'total and deterministic' (their statements: YtkclikfejmeblaaGreatDoorTotals.lean).
  GIVEN WITH THE SEED: the statements are not yours to turn. If you find one false, say at which input.
  Laid BY PROGRAM, IN A SANDBOX (cutbox-rows.mjs): the forced cells as the released guide's own fill.sh prints them over the translation e8dfe127a43322b3… (all of the seat's roots in one cut). By AI agents, Wed Nov 11 2026. No macro, syntax, notation, axiom, sorry.
-/
import Derived.Test.YtkclikfejmeblaaGreatDoorChecked
import GoSem.PinnedTables
import GoSem.Claim
import GoSem.ClaimJoined
import GoSem.ClaimMapViews
import Derived.JoinedTies
import Derived.KernelRfl
namespace Go.Proofs.YtkclikfejmeblaaGreatDoor
/- THE CELL 'sum', in the pinned program and in every row, IS THE sha256 OF THE DUMP (.gsa) THAT YtkclikfejmeblaaGreatDoorProg.lean LOADS. Nothing in Lean hashes anything: it is a label: what it is worth is what the hold of that sum in a sandbox is worth. -/
noncomputable def Tryz.pinned : Pinned := { name := "ytkclikfejmeblaagreatdoor", sum := "e8dfe127a43322b393fd90c42b4b77ac8a8dbfe2bdf7185c871d0e9fc2e1f3c4", checked := Tryz.checked }
namespace Rows
def none {H : Type} : Left H := { results := [], args := [] }

/- WHAT THE LISTED PACKAGE-LEVEL VARIABLES READ AS WHEN THE CALL BEGINS. Each datum BY PROGRAM (the guide's laid-datum.mjs) off the statement by which the dump's own 'gosem.cut.vars' lays the variable. In a bare row this is a premise. The card (YtkclikfejmeblaaGreatDoorCards.lean) ties it to the program's text. -/
def laid_unicode_utf8_acceptRanges {H : Type} : DataW H := .agg [.agg [.lit (.int .u8 128), .lit (.int .u8 191)], .agg [.lit (.int .u8 160), .lit (.int .u8 191)], .agg [.lit (.int .u8 128), .lit (.int .u8 159)], .agg [.lit (.int .u8 144), .lit (.int .u8 191)], .agg [.lit (.int .u8 128), .lit (.int .u8 143)], .agg [.lit (.int .u8 0), .lit (.int .u8 0)], .agg [.lit (.int .u8 0), .lit (.int .u8 0)], .agg [.lit (.int .u8 0), .lit (.int .u8 0)], .agg [.lit (.int .u8 0), .lit (.int .u8 0)], .agg [.lit (.int .u8 0), .lit (.int .u8 0)], .agg [.lit (.int .u8 0), .lit (.int .u8 0)], .agg [.lit (.int .u8 0), .lit (.int .u8 0)], .agg [.lit (.int .u8 0), .lit (.int .u8 0)], .agg [.lit (.int .u8 0), .lit (.int .u8 0)], .agg [.lit (.int .u8 0), .lit (.int .u8 0)], .agg [.lit (.int .u8 0), .lit (.int .u8 0)]]
/-- One of Go's own tables, pinned by name: the form's constant. -/
def laid_unicode_utf8_first : DataW Unit := Go.Pinned.utf8First
def laid_errors_errorType {H : Type} : DataW H := .iface "internal/reflectlite.rtype" (.agg [.ptr (.lit (.string [101, 114, 114, 111, 114]))])

/-- 'furrowlaw07.ClassesNames': WHATEVER THE INPUT: true; the input reads as it did. -/
def classesNamesSpec : ChangeSpec := { name := "classesNames", fn := fun _ => fun
  | [] => { results := [.lit (.bool true)], args := [] }
  | _ => none }
def classesNamesRow : OpenClaim := { program := "ytkclikfejmeblaagreatdoor", sum := "e8dfe127a43322b393fd90c42b4b77ac8a8dbfe2bdf7185c871d0e9fc2e1f3c4", func := "furrow/furrowlaw07.ClassesNames", spec := "classesNames", inPlace := ["internal/bytealg.IndexByteString", "internal/bytealg.IndexString", "slices.overlaps[furrow/api.Span[int]]", "slices.overlaps[furrow/api.Span[furrow/api.Class]]"], unfollowed := true, recurses := true, named := ["internal/bytealg.MaxLen", "unicode/utf8.first", "unicode/utf8.acceptRanges"], apart := false, laid := [("unicode/utf8.acceptRanges", laid_unicode_utf8_acceptRanges), ("unicode/utf8.first", laid_unicode_utf8_first)] }
def ClassesNamesSaid : Prop := classesNamesRow.holds Tryz.pinned (OpenSpec.ofChange classesNamesSpec)

/-- ITS FALSE NEIGHBOUR: 'it returns false'. Refute it at one input. -/
def classesNamesWrong : ChangeSpec := { name := "classesNames", fn := fun _ => fun
  | [] => { results := [.lit (.bool false)], args := [] }
  | _ => none }
def ClassesNamesWrongFalsely : Prop := classesNamesRow.holds Tryz.pinned (OpenSpec.ofChange classesNamesWrong)

/-- 'furrowlaw07.ClassesWhole': WHATEVER THE INPUT: true; the input reads as it did. -/
def classesWholeSpec : ChangeSpec := { name := "classesWhole", fn := fun _ => fun
  | [d] => { results := [.lit (.bool true)], args := [d] }
  | _ => none }
def classesWholeRow : OpenClaim := { program := "ytkclikfejmeblaagreatdoor", sum := "e8dfe127a43322b393fd90c42b4b77ac8a8dbfe2bdf7185c871d0e9fc2e1f3c4", func := "furrow/furrowlaw07.ClassesWhole", spec := "classesWhole", inPlace := ["internal/bytealg.IndexByteString", "internal/bytealg.IndexString", "slices.overlaps[furrow/api.Span[int]]", "slices.overlaps[furrow/api.Span[furrow/api.Class]]"], unfollowed := true, recurses := true, named := ["internal/bytealg.MaxLen", "unicode/utf8.first", "unicode/utf8.acceptRanges"], apart := false, laid := [("unicode/utf8.acceptRanges", laid_unicode_utf8_acceptRanges), ("unicode/utf8.first", laid_unicode_utf8_first)] }
def ClassesWholeSaid : Prop := classesWholeRow.holds Tryz.pinned (OpenSpec.ofChange classesWholeSpec)

/-- ITS FALSE NEIGHBOUR: 'it returns false'. Refute it at one input. -/
def classesWholeWrong : ChangeSpec := { name := "classesWhole", fn := fun _ => fun
  | [d] => { results := [.lit (.bool false)], args := [d] }
  | _ => none }
def ClassesWholeWrongFalsely : Prop := classesWholeRow.holds Tryz.pinned (OpenSpec.ofChange classesWholeWrong)

/-- 'furrowlaw07.ClassesNotes': WHATEVER THE INPUT: true; the input reads as it did. -/
def classesNotesSpec : ChangeSpec := { name := "classesNotes", fn := fun _ => fun
  | [d1, d2, d3, d4] => { results := [.lit (.bool true)], args := [d1, d2, d3, d4] }
  | _ => none }
def classesNotesRow : OpenClaim := { program := "ytkclikfejmeblaagreatdoor", sum := "e8dfe127a43322b393fd90c42b4b77ac8a8dbfe2bdf7185c871d0e9fc2e1f3c4", func := "furrow/furrowlaw07.ClassesNotes", spec := "classesNotes", inPlace := ["internal/bytealg.IndexByteString", "internal/bytealg.IndexString", "slices.overlaps[furrow/api.Span[int]]", "slices.overlaps[furrow/api.Span[furrow/api.Class]]", "internal/abi.NoEscape"], unfollowed := true, recurses := true, named := ["internal/bytealg.MaxLen", "unicode/utf8.first", "unicode/utf8.acceptRanges"], apart := false, laid := [("unicode/utf8.acceptRanges", laid_unicode_utf8_acceptRanges), ("unicode/utf8.first", laid_unicode_utf8_first)] }
def ClassesNotesSaid : Prop := classesNotesRow.holds Tryz.pinned (OpenSpec.ofChange classesNotesSpec)

/-- ITS FALSE NEIGHBOUR: 'it returns false'. Refute it at one input. -/
def classesNotesWrong : ChangeSpec := { name := "classesNotes", fn := fun _ => fun
  | [d1, d2, d3, d4] => { results := [.lit (.bool false)], args := [d1, d2, d3, d4] }
  | _ => none }
def ClassesNotesWrongFalsely : Prop := classesNotesRow.holds Tryz.pinned (OpenSpec.ofChange classesNotesWrong)

/-- 'furrowlaw07.ClassesNone': WHATEVER THE INPUT: true; the input reads as it did. -/
def classesNoneSpec : ChangeSpec := { name := "classesNone", fn := fun _ => fun
  | [d] => { results := [.lit (.bool true)], args := [d] }
  | _ => none }
def classesNoneRow : OpenClaim := { program := "ytkclikfejmeblaagreatdoor", sum := "e8dfe127a43322b393fd90c42b4b77ac8a8dbfe2bdf7185c871d0e9fc2e1f3c4", func := "furrow/furrowlaw07.ClassesNone", spec := "classesNone", inPlace := ["internal/abi.NoEscape", "internal/bytealg.IndexByteString", "internal/bytealg.IndexString", "slices.overlaps[furrow/api.Span[int]]", "slices.overlaps[furrow/api.Span[furrow/api.Class]]"], unfollowed := true, recurses := true, named := ["internal/bytealg.MaxLen", "unicode/utf8.first", "unicode/utf8.acceptRanges"], apart := false, laid := [("unicode/utf8.acceptRanges", laid_unicode_utf8_acceptRanges), ("unicode/utf8.first", laid_unicode_utf8_first)] }
def ClassesNoneSaid : Prop := classesNoneRow.holds Tryz.pinned (OpenSpec.ofChange classesNoneSpec)

/-- ITS FALSE NEIGHBOUR: 'it returns false'. Refute it at one input. -/
def classesNoneWrong : ChangeSpec := { name := "classesNone", fn := fun _ => fun
  | [d] => { results := [.lit (.bool false)], args := [d] }
  | _ => none }
def ClassesNoneWrongFalsely : Prop := classesNoneRow.holds Tryz.pinned (OpenSpec.ofChange classesNoneWrong)

/-- 'furrowlaw07.ClassesBack': WHATEVER THE INPUT: true; the input reads as it did. -/
def classesBackSpec : ChangeSpec := { name := "classesBack", fn := fun _ => fun
  | [d] => { results := [.lit (.bool true)], args := [d] }
  | _ => none }
def classesBackRow : OpenClaim := { program := "ytkclikfejmeblaagreatdoor", sum := "e8dfe127a43322b393fd90c42b4b77ac8a8dbfe2bdf7185c871d0e9fc2e1f3c4", func := "furrow/furrowlaw07.ClassesBack", spec := "classesBack", inPlace := ["internal/bytealg.IndexByteString", "internal/bytealg.IndexString", "slices.overlaps[furrow/api.Span[int]]", "slices.overlaps[furrow/api.Span[furrow/api.Class]]", "internal/abi.NoEscape"], unfollowed := true, recurses := true, named := ["internal/bytealg.MaxLen", "unicode/utf8.first", "unicode/utf8.acceptRanges"], apart := false, laid := [("unicode/utf8.acceptRanges", laid_unicode_utf8_acceptRanges), ("unicode/utf8.first", laid_unicode_utf8_first)] }
def ClassesBackSaid : Prop := classesBackRow.holds Tryz.pinned (OpenSpec.ofChange classesBackSpec)

/-- ITS FALSE NEIGHBOUR: 'it returns false'. Refute it at one input. -/
def classesBackWrong : ChangeSpec := { name := "classesBack", fn := fun _ => fun
  | [d] => { results := [.lit (.bool false)], args := [d] }
  | _ => none }
def ClassesBackWrongFalsely : Prop := classesBackRow.holds Tryz.pinned (OpenSpec.ofChange classesBackWrong)

/-- 'furrowlaw07.ClassesReads': WHATEVER THE INPUT: true; the input reads as it did. -/
def classesReadsSpec : ChangeSpec := { name := "classesReads", fn := fun _ => fun
  | [d1, d2, d3, d4] => { results := [.lit (.bool true)], args := [d1, d2, d3, d4] }
  | _ => none }
def classesReadsRow : OpenClaim := { program := "ytkclikfejmeblaagreatdoor", sum := "e8dfe127a43322b393fd90c42b4b77ac8a8dbfe2bdf7185c871d0e9fc2e1f3c4", func := "furrow/furrowlaw07.ClassesReads", spec := "classesReads", inPlace := ["internal/bytealg.IndexByteString", "internal/bytealg.IndexString", "slices.overlaps[furrow/api.Span[int]]", "slices.overlaps[furrow/api.Span[furrow/api.Class]]", "internal/reflectlite.ValueOf", "(internal/reflectlite.Value).Type", "(internal/reflectlite.Value).IsNil", "internal/reflectlite.TypeOf", "(internal/reflectlite.Value).Elem", "(internal/reflectlite.Value).Set", "internal/abi.NoEscape"], unfollowed := true, recurses := true, named := ["internal/bytealg.MaxLen", "unicode/utf8.first", "unicode/utf8.acceptRanges", "errors.errorType"], apart := false, laid := [("unicode/utf8.acceptRanges", laid_unicode_utf8_acceptRanges), ("errors.errorType", laid_errors_errorType), ("unicode/utf8.first", laid_unicode_utf8_first)] }
def ClassesReadsSaid : Prop := classesReadsRow.holds Tryz.pinned (OpenSpec.ofChange classesReadsSpec)

/-- ITS FALSE NEIGHBOUR: 'it returns false'. Refute it at one input. -/
def classesReadsWrong : ChangeSpec := { name := "classesReads", fn := fun _ => fun
  | [d1, d2, d3, d4] => { results := [.lit (.bool false)], args := [d1, d2, d3, d4] }
  | _ => none }
def ClassesReadsWrongFalsely : Prop := classesReadsRow.holds Tryz.pinned (OpenSpec.ofChange classesReadsWrong)

/- THE SECOND FORM. 'bulk': how many values and letters a reading holds, each counted each time it is reached (what is shared counts as often as it is met; a slice's spare places count too). A statement '..UptoSaid' is the law's where the arguments, and the package variables that the reading takes, are together of bulk at most 1048576: NARROWER than '..Said'. Prove '..Said' where nothing that the law and all that it calls make is longer than what came in: it says more and counts as full. Else prove '..UptoSaid'. A law counts once. -/
mutual
def uptoBulk {H : Type} : DataW H → Nat
  | .lit (.string bytes) => bytes.length + 1
  | .lit _ => 1
  | .nil => 1
  | .ptr d => uptoBulk d + 1
  | .slice elems spare => uptoBulkAll elems + uptoBulkAll spare + 1
  | .agg parts => uptoBulkAll parts + 1
  | .iface _ d => uptoBulk d + 1
  | .map entries => uptoBulkEntries entries + 1
  | .held _ => 1
def uptoBulkAll {H : Type} : List (DataW H) → Nat
  | [] => 0
  | d :: r => uptoBulk d + uptoBulkAll r
def uptoBulkEntries {H : Type} : List (Lit × DataW H) → Nat
  | [] => 0
  | x :: r => uptoBulkEntry x + uptoBulkEntries r
def uptoBulkEntry {H : Type} : Lit × DataW H → Nat
  | (.string bytes, d) => bytes.length + uptoBulk d + 1
  | (_, d) => uptoBulk d + 1
 end
def uptoSmall : (H : Type) → List (DataW H) → Bool := fun _ ds => decide (uptoBulkAll ds ≤ 1048576)
def OpenSpec.upto (s : _root_.Go.ChangeSpec) : _root_.Go.OpenSpec := { _root_.Go.OpenSpec.ofChange s with cond := some uptoSmall }

/-- 'furrowlaw07.ClassesNames', WHERE WHAT IT READS IS OF BULK AT MOST 1048576: true; the input reads as it did. -/
def classesNamesUptoRow : OpenClaim := { program := "ytkclikfejmeblaagreatdoor", sum := "e8dfe127a43322b393fd90c42b4b77ac8a8dbfe2bdf7185c871d0e9fc2e1f3c4", func := "furrow/furrowlaw07.ClassesNames", spec := "classesNames", inPlace := ["internal/bytealg.IndexByteString", "internal/bytealg.IndexString", "slices.overlaps[furrow/api.Span[int]]", "slices.overlaps[furrow/api.Span[furrow/api.Class]]"], unfollowed := true, recurses := true, named := ["internal/bytealg.MaxLen", "unicode/utf8.first", "unicode/utf8.acceptRanges"], apart := false, laid := [("unicode/utf8.acceptRanges", laid_unicode_utf8_acceptRanges), ("unicode/utf8.first", laid_unicode_utf8_first)], narrowed := true }
def ClassesNamesUptoSaid : Prop := classesNamesUptoRow.holds Tryz.pinned (OpenSpec.upto classesNamesSpec)

/-- 'furrowlaw07.ClassesWhole', WHERE WHAT IT READS IS OF BULK AT MOST 1048576: true; the input reads as it did. -/
def classesWholeUptoRow : OpenClaim := { program := "ytkclikfejmeblaagreatdoor", sum := "e8dfe127a43322b393fd90c42b4b77ac8a8dbfe2bdf7185c871d0e9fc2e1f3c4", func := "furrow/furrowlaw07.ClassesWhole", spec := "classesWhole", inPlace := ["internal/bytealg.IndexByteString", "internal/bytealg.IndexString", "slices.overlaps[furrow/api.Span[int]]", "slices.overlaps[furrow/api.Span[furrow/api.Class]]"], unfollowed := true, recurses := true, named := ["internal/bytealg.MaxLen", "unicode/utf8.first", "unicode/utf8.acceptRanges"], apart := false, laid := [("unicode/utf8.acceptRanges", laid_unicode_utf8_acceptRanges), ("unicode/utf8.first", laid_unicode_utf8_first)], narrowed := true }
def ClassesWholeUptoSaid : Prop := classesWholeUptoRow.holds Tryz.pinned (OpenSpec.upto classesWholeSpec)

/-- 'furrowlaw07.ClassesNotes', WHERE WHAT IT READS IS OF BULK AT MOST 1048576: true; the input reads as it did. -/
def classesNotesUptoRow : OpenClaim := { program := "ytkclikfejmeblaagreatdoor", sum := "e8dfe127a43322b393fd90c42b4b77ac8a8dbfe2bdf7185c871d0e9fc2e1f3c4", func := "furrow/furrowlaw07.ClassesNotes", spec := "classesNotes", inPlace := ["internal/bytealg.IndexByteString", "internal/bytealg.IndexString", "slices.overlaps[furrow/api.Span[int]]", "slices.overlaps[furrow/api.Span[furrow/api.Class]]", "internal/abi.NoEscape"], unfollowed := true, recurses := true, named := ["internal/bytealg.MaxLen", "unicode/utf8.first", "unicode/utf8.acceptRanges"], apart := false, laid := [("unicode/utf8.acceptRanges", laid_unicode_utf8_acceptRanges), ("unicode/utf8.first", laid_unicode_utf8_first)], narrowed := true }
def ClassesNotesUptoSaid : Prop := classesNotesUptoRow.holds Tryz.pinned (OpenSpec.upto classesNotesSpec)

/-- 'furrowlaw07.ClassesNone', WHERE WHAT IT READS IS OF BULK AT MOST 1048576: true; the input reads as it did. -/
def classesNoneUptoRow : OpenClaim := { program := "ytkclikfejmeblaagreatdoor", sum := "e8dfe127a43322b393fd90c42b4b77ac8a8dbfe2bdf7185c871d0e9fc2e1f3c4", func := "furrow/furrowlaw07.ClassesNone", spec := "classesNone", inPlace := ["internal/abi.NoEscape", "internal/bytealg.IndexByteString", "internal/bytealg.IndexString", "slices.overlaps[furrow/api.Span[int]]", "slices.overlaps[furrow/api.Span[furrow/api.Class]]"], unfollowed := true, recurses := true, named := ["internal/bytealg.MaxLen", "unicode/utf8.first", "unicode/utf8.acceptRanges"], apart := false, laid := [("unicode/utf8.acceptRanges", laid_unicode_utf8_acceptRanges), ("unicode/utf8.first", laid_unicode_utf8_first)], narrowed := true }
def ClassesNoneUptoSaid : Prop := classesNoneUptoRow.holds Tryz.pinned (OpenSpec.upto classesNoneSpec)

/-- 'furrowlaw07.ClassesBack', WHERE WHAT IT READS IS OF BULK AT MOST 1048576: true; the input reads as it did. -/
def classesBackUptoRow : OpenClaim := { program := "ytkclikfejmeblaagreatdoor", sum := "e8dfe127a43322b393fd90c42b4b77ac8a8dbfe2bdf7185c871d0e9fc2e1f3c4", func := "furrow/furrowlaw07.ClassesBack", spec := "classesBack", inPlace := ["internal/bytealg.IndexByteString", "internal/bytealg.IndexString", "slices.overlaps[furrow/api.Span[int]]", "slices.overlaps[furrow/api.Span[furrow/api.Class]]", "internal/abi.NoEscape"], unfollowed := true, recurses := true, named := ["internal/bytealg.MaxLen", "unicode/utf8.first", "unicode/utf8.acceptRanges"], apart := false, laid := [("unicode/utf8.acceptRanges", laid_unicode_utf8_acceptRanges), ("unicode/utf8.first", laid_unicode_utf8_first)], narrowed := true }
def ClassesBackUptoSaid : Prop := classesBackUptoRow.holds Tryz.pinned (OpenSpec.upto classesBackSpec)

/-- 'furrowlaw07.ClassesReads', WHERE WHAT IT READS IS OF BULK AT MOST 1048576: true; the input reads as it did. -/
def classesReadsUptoRow : OpenClaim := { program := "ytkclikfejmeblaagreatdoor", sum := "e8dfe127a43322b393fd90c42b4b77ac8a8dbfe2bdf7185c871d0e9fc2e1f3c4", func := "furrow/furrowlaw07.ClassesReads", spec := "classesReads", inPlace := ["internal/bytealg.IndexByteString", "internal/bytealg.IndexString", "slices.overlaps[furrow/api.Span[int]]", "slices.overlaps[furrow/api.Span[furrow/api.Class]]", "internal/reflectlite.ValueOf", "(internal/reflectlite.Value).Type", "(internal/reflectlite.Value).IsNil", "internal/reflectlite.TypeOf", "(internal/reflectlite.Value).Elem", "(internal/reflectlite.Value).Set", "internal/abi.NoEscape"], unfollowed := true, recurses := true, named := ["internal/bytealg.MaxLen", "unicode/utf8.first", "unicode/utf8.acceptRanges", "errors.errorType"], apart := false, laid := [("unicode/utf8.acceptRanges", laid_unicode_utf8_acceptRanges), ("errors.errorType", laid_errors_errorType), ("unicode/utf8.first", laid_unicode_utf8_first)], narrowed := true }
def ClassesReadsUptoSaid : Prop := classesReadsUptoRow.holds Tryz.pinned (OpenSpec.upto classesReadsSpec)

end Rows
end Go.Proofs.YtkclikfejmeblaaGreatDoor
