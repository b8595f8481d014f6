/-
  NARROWER THAN 'FOR EVERY INPUT', by the rows' own cells (each row's printed sentence says how): BracketsNew: laid · BracketsBack: laid · BracketsParse: laid · BracketsTwins: laid · BracketsNil: laid · BracketsPairs: laid · BracketsKnown: laid.
  DERIVED. THE GIVEN ROWS OF THIS SEAT. 7 by the template 'for every input the law returns true; each argument reads behind the call as it read before'; 0 by the template 'total and deterministic' (their statements: YtddnhlobnembaaaGreatDoorTotals.lean).
  GIVEN WITH THE SEED: the statements are not yours to turn. If you find one false, say at which input.
  Laid BY PROGRAM, IN A SANDBOX (cutbox-rows.mjs): the forced cells as the released guide's own fill.sh prints them over the translation 82295f26ea7ce2e0… (all of the seat's roots in one cut). By AI agents, Wed Nov 11 2026. No macro, syntax, notation, axiom, sorry.
-/
import Derived.Test.YtddnhlobnembaaaGreatDoorChecked
import GoSem.PinnedTables
import GoSem.Claim
import GoSem.ClaimJoined
import GoSem.ClaimMapViews
import Derived.JoinedTies
import Derived.KernelRfl
namespace Go.Proofs.YtddnhlobnembaaaGreatDoor
/- THE CELL 'sum', in the pinned program and in every row, IS THE sha256 OF THE DUMP (.gsa) THAT YtddnhlobnembaaaGreatDoorProg.lean LOADS. Nothing in Lean hashes anything: it is a label: what it is worth is what the hold of that sum in a sandbox is worth. -/
noncomputable def Tryz.pinned : Pinned := { name := "ytddnhlobnembaaagreatdoor", sum := "82295f26ea7ce2e084a5fc328fbe810d3af80f6751bdb5ca5eb650fa8a63c5cd", checked := Tryz.checked }
namespace Rows
def none {H : Type} : Left H := { results := [], args := [] }

/- WHAT THE LISTED PACKAGE-LEVEL VARIABLES READ AS WHEN THE CALL BEGINS. Each datum BY PROGRAM (the guide's laid-datum.mjs) off the statement by which the dump's own 'gosem.cut.vars' lays the variable. In a bare row this is a premise. The card (YtddnhlobnembaaaGreatDoorCards.lean) ties it to the program's text. -/
def laid_unicode_utf8_acceptRanges {H : Type} : DataW H := .agg [.agg [.lit (.int .u8 128), .lit (.int .u8 191)], .agg [.lit (.int .u8 160), .lit (.int .u8 191)], .agg [.lit (.int .u8 128), .lit (.int .u8 159)], .agg [.lit (.int .u8 144), .lit (.int .u8 191)], .agg [.lit (.int .u8 128), .lit (.int .u8 143)], .agg [.lit (.int .u8 0), .lit (.int .u8 0)], .agg [.lit (.int .u8 0), .lit (.int .u8 0)], .agg [.lit (.int .u8 0), .lit (.int .u8 0)], .agg [.lit (.int .u8 0), .lit (.int .u8 0)], .agg [.lit (.int .u8 0), .lit (.int .u8 0)], .agg [.lit (.int .u8 0), .lit (.int .u8 0)], .agg [.lit (.int .u8 0), .lit (.int .u8 0)], .agg [.lit (.int .u8 0), .lit (.int .u8 0)], .agg [.lit (.int .u8 0), .lit (.int .u8 0)], .agg [.lit (.int .u8 0), .lit (.int .u8 0)], .agg [.lit (.int .u8 0), .lit (.int .u8 0)]]
def laid_errors_errorType {H : Type} : DataW H := .iface "internal/reflectlite.rtype" (.agg [.ptr (.lit (.string [101, 114, 114, 111, 114]))])
/-- One of Go's own tables, pinned by name: the form's constant. -/
def laid_unicode_utf8_first : DataW Unit := Go.Pinned.utf8First

/-- 'furrowlaw08.BracketsNew': WHATEVER THE INPUT: true; the input reads as it did. -/
def bracketsNewSpec : ChangeSpec := { name := "bracketsNew", fn := fun _ => fun
  | [d1, d2] => { results := [.lit (.bool true)], args := [d1, d2] }
  | _ => none }
def bracketsNewRow : OpenClaim := { program := "ytddnhlobnembaaagreatdoor", sum := "82295f26ea7ce2e084a5fc328fbe810d3af80f6751bdb5ca5eb650fa8a63c5cd", func := "furrow/furrowlaw08.BracketsNew", spec := "bracketsNew", inPlace := ["internal/abi.NoEscape", "internal/bytealg.IndexByteString", "internal/bytealg.IndexString", "internal/reflectlite.ValueOf", "(internal/reflectlite.Value).Type", "(internal/reflectlite.Value).IsNil", "internal/reflectlite.TypeOf", "(internal/reflectlite.Value).Elem", "(internal/reflectlite.Value).Set"], unfollowed := true, recurses := true, named := ["internal/bytealg.MaxLen", "unicode/utf8.first", "unicode/utf8.acceptRanges", "errors.errorType"], apart := false, laid := [("unicode/utf8.acceptRanges", laid_unicode_utf8_acceptRanges), ("errors.errorType", laid_errors_errorType), ("unicode/utf8.first", laid_unicode_utf8_first)] }
def BracketsNewSaid : Prop := bracketsNewRow.holds Tryz.pinned (OpenSpec.ofChange bracketsNewSpec)

/-- ITS FALSE NEIGHBOUR: 'it returns false'. Refute it at one input. -/
def bracketsNewWrong : ChangeSpec := { name := "bracketsNew", fn := fun _ => fun
  | [d1, d2] => { results := [.lit (.bool false)], args := [d1, d2] }
  | _ => none }
def BracketsNewWrongFalsely : Prop := bracketsNewRow.holds Tryz.pinned (OpenSpec.ofChange bracketsNewWrong)

/-- 'furrowlaw08.BracketsBack': WHATEVER THE INPUT: true; the input reads as it did. -/
def bracketsBackSpec : ChangeSpec := { name := "bracketsBack", fn := fun _ => fun
  | [d] => { results := [.lit (.bool true)], args := [d] }
  | _ => none }
def bracketsBackRow : OpenClaim := { program := "ytddnhlobnembaaagreatdoor", sum := "82295f26ea7ce2e084a5fc328fbe810d3af80f6751bdb5ca5eb650fa8a63c5cd", func := "furrow/furrowlaw08.BracketsBack", spec := "bracketsBack", inPlace := ["internal/bytealg.IndexByteString", "internal/bytealg.IndexString", "internal/reflectlite.ValueOf", "(internal/reflectlite.Value).Type", "(internal/reflectlite.Value).IsNil", "internal/reflectlite.TypeOf", "(internal/reflectlite.Value).Elem", "(internal/reflectlite.Value).Set", "internal/abi.NoEscape"], unfollowed := true, recurses := true, named := ["internal/bytealg.MaxLen", "unicode/utf8.first", "unicode/utf8.acceptRanges", "errors.errorType"], apart := false, laid := [("unicode/utf8.acceptRanges", laid_unicode_utf8_acceptRanges), ("errors.errorType", laid_errors_errorType), ("unicode/utf8.first", laid_unicode_utf8_first)] }
def BracketsBackSaid : Prop := bracketsBackRow.holds Tryz.pinned (OpenSpec.ofChange bracketsBackSpec)

/-- ITS FALSE NEIGHBOUR: 'it returns false'. Refute it at one input. -/
def bracketsBackWrong : ChangeSpec := { name := "bracketsBack", fn := fun _ => fun
  | [d] => { results := [.lit (.bool false)], args := [d] }
  | _ => none }
def BracketsBackWrongFalsely : Prop := bracketsBackRow.holds Tryz.pinned (OpenSpec.ofChange bracketsBackWrong)

/-- 'furrowlaw08.BracketsParse': WHATEVER THE INPUT: true; the input reads as it did. -/
def bracketsParseSpec : ChangeSpec := { name := "bracketsParse", fn := fun _ => fun
  | [d1, d2, d3] => { results := [.lit (.bool true)], args := [d1, d2, d3] }
  | _ => none }
def bracketsParseRow : OpenClaim := { program := "ytddnhlobnembaaagreatdoor", sum := "82295f26ea7ce2e084a5fc328fbe810d3af80f6751bdb5ca5eb650fa8a63c5cd", func := "furrow/furrowlaw08.BracketsParse", spec := "bracketsParse", inPlace := ["internal/bytealg.IndexByteString", "internal/bytealg.IndexString", "internal/reflectlite.ValueOf", "(internal/reflectlite.Value).Type", "(internal/reflectlite.Value).IsNil", "internal/reflectlite.TypeOf", "(internal/reflectlite.Value).Elem", "(internal/reflectlite.Value).Set", "internal/abi.NoEscape"], unfollowed := true, recurses := true, named := ["internal/bytealg.MaxLen", "unicode/utf8.first", "unicode/utf8.acceptRanges", "errors.errorType"], apart := false, laid := [("unicode/utf8.acceptRanges", laid_unicode_utf8_acceptRanges), ("errors.errorType", laid_errors_errorType), ("unicode/utf8.first", laid_unicode_utf8_first)] }
def BracketsParseSaid : Prop := bracketsParseRow.holds Tryz.pinned (OpenSpec.ofChange bracketsParseSpec)

/-- ITS FALSE NEIGHBOUR: 'it returns false'. Refute it at one input. -/
def bracketsParseWrong : ChangeSpec := { name := "bracketsParse", fn := fun _ => fun
  | [d1, d2, d3] => { results := [.lit (.bool false)], args := [d1, d2, d3] }
  | _ => none }
def BracketsParseWrongFalsely : Prop := bracketsParseRow.holds Tryz.pinned (OpenSpec.ofChange bracketsParseWrong)

/-- 'furrowlaw08.BracketsTwins': WHATEVER THE INPUT: true; the input reads as it did. -/
def bracketsTwinsSpec : ChangeSpec := { name := "bracketsTwins", fn := fun _ => fun
  | [d1, d2, d3, d4] => { results := [.lit (.bool true)], args := [d1, d2, d3, d4] }
  | _ => none }
def bracketsTwinsRow : OpenClaim := { program := "ytddnhlobnembaaagreatdoor", sum := "82295f26ea7ce2e084a5fc328fbe810d3af80f6751bdb5ca5eb650fa8a63c5cd", func := "furrow/furrowlaw08.BracketsTwins", spec := "bracketsTwins", inPlace := ["internal/bytealg.IndexByteString", "internal/bytealg.IndexString", "internal/reflectlite.ValueOf", "(internal/reflectlite.Value).Type", "(internal/reflectlite.Value).IsNil", "internal/reflectlite.TypeOf", "(internal/reflectlite.Value).Elem", "(internal/reflectlite.Value).Set", "internal/abi.NoEscape", "maps.clone"], unfollowed := true, recurses := true, named := ["internal/bytealg.MaxLen", "unicode/utf8.first", "unicode/utf8.acceptRanges", "errors.errorType"], apart := false, laid := [("unicode/utf8.acceptRanges", laid_unicode_utf8_acceptRanges), ("errors.errorType", laid_errors_errorType), ("unicode/utf8.first", laid_unicode_utf8_first)] }
def BracketsTwinsSaid : Prop := bracketsTwinsRow.holds Tryz.pinned (OpenSpec.ofChange bracketsTwinsSpec)

/-- ITS FALSE NEIGHBOUR: 'it returns false'. Refute it at one input. -/
def bracketsTwinsWrong : ChangeSpec := { name := "bracketsTwins", fn := fun _ => fun
  | [d1, d2, d3, d4] => { results := [.lit (.bool false)], args := [d1, d2, d3, d4] }
  | _ => none }
def BracketsTwinsWrongFalsely : Prop := bracketsTwinsRow.holds Tryz.pinned (OpenSpec.ofChange bracketsTwinsWrong)

/-- 'furrowlaw08.BracketsNil': WHATEVER THE INPUT: true; the input reads as it did. -/
def bracketsNilSpec : ChangeSpec := { name := "bracketsNil", fn := fun _ => fun
  | [d1, d2, d3] => { results := [.lit (.bool true)], args := [d1, d2, d3] }
  | _ => none }
def bracketsNilRow : OpenClaim := { program := "ytddnhlobnembaaagreatdoor", sum := "82295f26ea7ce2e084a5fc328fbe810d3af80f6751bdb5ca5eb650fa8a63c5cd", func := "furrow/furrowlaw08.BracketsNil", spec := "bracketsNil", inPlace := ["internal/bytealg.IndexByteString", "internal/bytealg.IndexString", "internal/reflectlite.ValueOf", "(internal/reflectlite.Value).Type", "(internal/reflectlite.Value).IsNil", "internal/reflectlite.TypeOf", "(internal/reflectlite.Value).Elem", "(internal/reflectlite.Value).Set", "internal/abi.NoEscape", "maps.clone"], unfollowed := true, recurses := true, named := ["internal/bytealg.MaxLen", "unicode/utf8.first", "unicode/utf8.acceptRanges", "errors.errorType"], apart := false, laid := [("unicode/utf8.acceptRanges", laid_unicode_utf8_acceptRanges), ("errors.errorType", laid_errors_errorType), ("unicode/utf8.first", laid_unicode_utf8_first)] }
def BracketsNilSaid : Prop := bracketsNilRow.holds Tryz.pinned (OpenSpec.ofChange bracketsNilSpec)

/-- ITS FALSE NEIGHBOUR: 'it returns false'. Refute it at one input. -/
def bracketsNilWrong : ChangeSpec := { name := "bracketsNil", fn := fun _ => fun
  | [d1, d2, d3] => { results := [.lit (.bool false)], args := [d1, d2, d3] }
  | _ => none }
def BracketsNilWrongFalsely : Prop := bracketsNilRow.holds Tryz.pinned (OpenSpec.ofChange bracketsNilWrong)

/-- 'furrowlaw08.BracketsPairs': WHATEVER THE INPUT: true; the input reads as it did. -/
def bracketsPairsSpec : ChangeSpec := { name := "bracketsPairs", fn := fun _ => fun
  | [d1, d2, d3] => { results := [.lit (.bool true)], args := [d1, d2, d3] }
  | _ => none }
def bracketsPairsRow : OpenClaim := { program := "ytddnhlobnembaaagreatdoor", sum := "82295f26ea7ce2e084a5fc328fbe810d3af80f6751bdb5ca5eb650fa8a63c5cd", func := "furrow/furrowlaw08.BracketsPairs", spec := "bracketsPairs", inPlace := ["internal/bytealg.IndexByteString", "internal/bytealg.IndexString", "internal/reflectlite.ValueOf", "(internal/reflectlite.Value).Type", "(internal/reflectlite.Value).IsNil", "internal/reflectlite.TypeOf", "(internal/reflectlite.Value).Elem", "(internal/reflectlite.Value).Set", "internal/abi.NoEscape", "maps.clone"], unfollowed := true, recurses := true, named := ["internal/bytealg.MaxLen", "unicode/utf8.first", "unicode/utf8.acceptRanges", "errors.errorType"], apart := false, laid := [("unicode/utf8.acceptRanges", laid_unicode_utf8_acceptRanges), ("errors.errorType", laid_errors_errorType), ("unicode/utf8.first", laid_unicode_utf8_first)] }
def BracketsPairsSaid : Prop := bracketsPairsRow.holds Tryz.pinned (OpenSpec.ofChange bracketsPairsSpec)

/-- ITS FALSE NEIGHBOUR: 'it returns false'. Refute it at one input. -/
def bracketsPairsWrong : ChangeSpec := { name := "bracketsPairs", fn := fun _ => fun
  | [d1, d2, d3] => { results := [.lit (.bool false)], args := [d1, d2, d3] }
  | _ => none }
def BracketsPairsWrongFalsely : Prop := bracketsPairsRow.holds Tryz.pinned (OpenSpec.ofChange bracketsPairsWrong)

/-- 'furrowlaw08.BracketsKnown': WHATEVER THE INPUT: true; the input reads as it did. -/
def bracketsKnownSpec : ChangeSpec := { name := "bracketsKnown", fn := fun _ => fun
  | [] => { results := [.lit (.bool true)], args := [] }
  | _ => none }
def bracketsKnownRow : OpenClaim := { program := "ytddnhlobnembaaagreatdoor", sum := "82295f26ea7ce2e084a5fc328fbe810d3af80f6751bdb5ca5eb650fa8a63c5cd", func := "furrow/furrowlaw08.BracketsKnown", spec := "bracketsKnown", inPlace := ["internal/bytealg.IndexByteString", "internal/bytealg.IndexString", "internal/reflectlite.ValueOf", "(internal/reflectlite.Value).Type", "(internal/reflectlite.Value).IsNil", "internal/reflectlite.TypeOf", "(internal/reflectlite.Value).Elem", "(internal/reflectlite.Value).Set", "maps.clone", "internal/abi.NoEscape"], unfollowed := true, recurses := true, named := ["internal/bytealg.MaxLen", "unicode/utf8.first", "unicode/utf8.acceptRanges", "errors.errorType"], apart := false, laid := [("unicode/utf8.acceptRanges", laid_unicode_utf8_acceptRanges), ("errors.errorType", laid_errors_errorType), ("unicode/utf8.first", laid_unicode_utf8_first)] }
def BracketsKnownSaid : Prop := bracketsKnownRow.holds Tryz.pinned (OpenSpec.ofChange bracketsKnownSpec)

/-- ITS FALSE NEIGHBOUR: 'it returns false'. Refute it at one input. -/
def bracketsKnownWrong : ChangeSpec := { name := "bracketsKnown", fn := fun _ => fun
  | [] => { results := [.lit (.bool false)], args := [] }
  | _ => none }
def BracketsKnownWrongFalsely : Prop := bracketsKnownRow.holds Tryz.pinned (OpenSpec.ofChange bracketsKnownWrong)

/- THE SECOND FORM. 'bulk': how many values and letters a reading holds, each counted each time it is reached (what is shared counts as often as it is met; a slice's spare places count too). A statement '..UptoSaid' is the law's where the arguments, and the package variables that the reading takes, are together of bulk at most 1048576: NARROWER than '..Said'. Prove '..Said' where nothing that the law and all that it calls make is longer than what came in: it says more and counts as full. Else prove '..UptoSaid'. A law counts once. -/
mutual
def uptoBulk {H : Type} : DataW H → Nat
  | .lit (.string bytes) => bytes.length + 1
  | .lit _ => 1
  | .nil => 1
  | .ptr d => uptoBulk d + 1
  | .slice elems spare => uptoBulkAll elems + uptoBulkAll spare + 1
  | .agg parts => uptoBulkAll parts + 1
  | .iface _ d => uptoBulk d + 1
  | .map entries => uptoBulkEntries entries + 1
  | .held _ => 1
def uptoBulkAll {H : Type} : List (DataW H) → Nat
  | [] => 0
  | d :: r => uptoBulk d + uptoBulkAll r
def uptoBulkEntries {H : Type} : List (Lit × DataW H) → Nat
  | [] => 0
  | x :: r => uptoBulkEntry x + uptoBulkEntries r
def uptoBulkEntry {H : Type} : Lit × DataW H → Nat
  | (.string bytes, d) => bytes.length + uptoBulk d + 1
  | (_, d) => uptoBulk d + 1
 end
def uptoSmall : (H : Type) → List (DataW H) → Bool := fun _ ds => decide (uptoBulkAll ds ≤ 1048576)
def OpenSpec.upto (s : _root_.Go.ChangeSpec) : _root_.Go.OpenSpec := { _root_.Go.OpenSpec.ofChange s with cond := some uptoSmall }

/-- 'furrowlaw08.BracketsNew', WHERE WHAT IT READS IS OF BULK AT MOST 1048576: true; the input reads as it did. -/
def bracketsNewUptoRow : OpenClaim := { program := "ytddnhlobnembaaagreatdoor", sum := "82295f26ea7ce2e084a5fc328fbe810d3af80f6751bdb5ca5eb650fa8a63c5cd", func := "furrow/furrowlaw08.BracketsNew", spec := "bracketsNew", inPlace := ["internal/abi.NoEscape", "internal/bytealg.IndexByteString", "internal/bytealg.IndexString", "internal/reflectlite.ValueOf", "(internal/reflectlite.Value).Type", "(internal/reflectlite.Value).IsNil", "internal/reflectlite.TypeOf", "(internal/reflectlite.Value).Elem", "(internal/reflectlite.Value).Set"], unfollowed := true, recurses := true, named := ["internal/bytealg.MaxLen", "unicode/utf8.first", "unicode/utf8.acceptRanges", "errors.errorType"], apart := false, laid := [("unicode/utf8.acceptRanges", laid_unicode_utf8_acceptRanges), ("errors.errorType", laid_errors_errorType), ("unicode/utf8.first", laid_unicode_utf8_first)], narrowed := true }
def BracketsNewUptoSaid : Prop := bracketsNewUptoRow.holds Tryz.pinned (OpenSpec.upto bracketsNewSpec)

/-- 'furrowlaw08.BracketsBack', WHERE WHAT IT READS IS OF BULK AT MOST 1048576: true; the input reads as it did. -/
def bracketsBackUptoRow : OpenClaim := { program := "ytddnhlobnembaaagreatdoor", sum := "82295f26ea7ce2e084a5fc328fbe810d3af80f6751bdb5ca5eb650fa8a63c5cd", func := "furrow/furrowlaw08.BracketsBack", spec := "bracketsBack", inPlace := ["internal/bytealg.IndexByteString", "internal/bytealg.IndexString", "internal/reflectlite.ValueOf", "(internal/reflectlite.Value).Type", "(internal/reflectlite.Value).IsNil", "internal/reflectlite.TypeOf", "(internal/reflectlite.Value).Elem", "(internal/reflectlite.Value).Set", "internal/abi.NoEscape"], unfollowed := true, recurses := true, named := ["internal/bytealg.MaxLen", "unicode/utf8.first", "unicode/utf8.acceptRanges", "errors.errorType"], apart := false, laid := [("unicode/utf8.acceptRanges", laid_unicode_utf8_acceptRanges), ("errors.errorType", laid_errors_errorType), ("unicode/utf8.first", laid_unicode_utf8_first)], narrowed := true }
def BracketsBackUptoSaid : Prop := bracketsBackUptoRow.holds Tryz.pinned (OpenSpec.upto bracketsBackSpec)

/-- 'furrowlaw08.BracketsParse', WHERE WHAT IT READS IS OF BULK AT MOST 1048576: true; the input reads as it did. -/
def bracketsParseUptoRow : OpenClaim := { program := "ytddnhlobnembaaagreatdoor", sum := "82295f26ea7ce2e084a5fc328fbe810d3af80f6751bdb5ca5eb650fa8a63c5cd", func := "furrow/furrowlaw08.BracketsParse", spec := "bracketsParse", inPlace := ["internal/bytealg.IndexByteString", "internal/bytealg.IndexString", "internal/reflectlite.ValueOf", "(internal/reflectlite.Value).Type", "(internal/reflectlite.Value).IsNil", "internal/reflectlite.TypeOf", "(internal/reflectlite.Value).Elem", "(internal/reflectlite.Value).Set", "internal/abi.NoEscape"], unfollowed := true, recurses := true, named := ["internal/bytealg.MaxLen", "unicode/utf8.first", "unicode/utf8.acceptRanges", "errors.errorType"], apart := false, laid := [("unicode/utf8.acceptRanges", laid_unicode_utf8_acceptRanges), ("errors.errorType", laid_errors_errorType), ("unicode/utf8.first", laid_unicode_utf8_first)], narrowed := true }
def BracketsParseUptoSaid : Prop := bracketsParseUptoRow.holds Tryz.pinned (OpenSpec.upto bracketsParseSpec)

/-- 'furrowlaw08.BracketsTwins', WHERE WHAT IT READS IS OF BULK AT MOST 1048576: true; the input reads as it did. -/
def bracketsTwinsUptoRow : OpenClaim := { program := "ytddnhlobnembaaagreatdoor", sum := "82295f26ea7ce2e084a5fc328fbe810d3af80f6751bdb5ca5eb650fa8a63c5cd", func := "furrow/furrowlaw08.BracketsTwins", spec := "bracketsTwins", inPlace := ["internal/bytealg.IndexByteString", "internal/bytealg.IndexString", "internal/reflectlite.ValueOf", "(internal/reflectlite.Value).Type", "(internal/reflectlite.Value).IsNil", "internal/reflectlite.TypeOf", "(internal/reflectlite.Value).Elem", "(internal/reflectlite.Value).Set", "internal/abi.NoEscape", "maps.clone"], unfollowed := true, recurses := true, named := ["internal/bytealg.MaxLen", "unicode/utf8.first", "unicode/utf8.acceptRanges", "errors.errorType"], apart := false, laid := [("unicode/utf8.acceptRanges", laid_unicode_utf8_acceptRanges), ("errors.errorType", laid_errors_errorType), ("unicode/utf8.first", laid_unicode_utf8_first)], narrowed := true }
def BracketsTwinsUptoSaid : Prop := bracketsTwinsUptoRow.holds Tryz.pinned (OpenSpec.upto bracketsTwinsSpec)

/-- 'furrowlaw08.BracketsNil', WHERE WHAT IT READS IS OF BULK AT MOST 1048576: true; the input reads as it did. -/
def bracketsNilUptoRow : OpenClaim := { program := "ytddnhlobnembaaagreatdoor", sum := "82295f26ea7ce2e084a5fc328fbe810d3af80f6751bdb5ca5eb650fa8a63c5cd", func := "furrow/furrowlaw08.BracketsNil", spec := "bracketsNil", inPlace := ["internal/bytealg.IndexByteString", "internal/bytealg.IndexString", "internal/reflectlite.ValueOf", "(internal/reflectlite.Value).Type", "(internal/reflectlite.Value).IsNil", "internal/reflectlite.TypeOf", "(internal/reflectlite.Value).Elem", "(internal/reflectlite.Value).Set", "internal/abi.NoEscape", "maps.clone"], unfollowed := true, recurses := true, named := ["internal/bytealg.MaxLen", "unicode/utf8.first", "unicode/utf8.acceptRanges", "errors.errorType"], apart := false, laid := [("unicode/utf8.acceptRanges", laid_unicode_utf8_acceptRanges), ("errors.errorType", laid_errors_errorType), ("unicode/utf8.first", laid_unicode_utf8_first)], narrowed := true }
def BracketsNilUptoSaid : Prop := bracketsNilUptoRow.holds Tryz.pinned (OpenSpec.upto bracketsNilSpec)

/-- 'furrowlaw08.BracketsPairs', WHERE WHAT IT READS IS OF BULK AT MOST 1048576: true; the input reads as it did. -/
def bracketsPairsUptoRow : OpenClaim := { program := "ytddnhlobnembaaagreatdoor", sum := "82295f26ea7ce2e084a5fc328fbe810d3af80f6751bdb5ca5eb650fa8a63c5cd", func := "furrow/furrowlaw08.BracketsPairs", spec := "bracketsPairs", inPlace := ["internal/bytealg.IndexByteString", "internal/bytealg.IndexString", "internal/reflectlite.ValueOf", "(internal/reflectlite.Value).Type", "(internal/reflectlite.Value).IsNil", "internal/reflectlite.TypeOf", "(internal/reflectlite.Value).Elem", "(internal/reflectlite.Value).Set", "internal/abi.NoEscape", "maps.clone"], unfollowed := true, recurses := true, named := ["internal/bytealg.MaxLen", "unicode/utf8.first", "unicode/utf8.acceptRanges", "errors.errorType"], apart := false, laid := [("unicode/utf8.acceptRanges", laid_unicode_utf8_acceptRanges), ("errors.errorType", laid_errors_errorType), ("unicode/utf8.first", laid_unicode_utf8_first)], narrowed := true }
def BracketsPairsUptoSaid : Prop := bracketsPairsUptoRow.holds Tryz.pinned (OpenSpec.upto bracketsPairsSpec)

/-- 'furrowlaw08.BracketsKnown', WHERE WHAT IT READS IS OF BULK AT MOST 1048576: true; the input reads as it did. -/
def bracketsKnownUptoRow : OpenClaim := { program := "ytddnhlobnembaaagreatdoor", sum := "82295f26ea7ce2e084a5fc328fbe810d3af80f6751bdb5ca5eb650fa8a63c5cd", func := "furrow/furrowlaw08.BracketsKnown", spec := "bracketsKnown", inPlace := ["internal/bytealg.IndexByteString", "internal/bytealg.IndexString", "internal/reflectlite.ValueOf", "(internal/reflectlite.Value).Type", "(internal/reflectlite.Value).IsNil", "internal/reflectlite.TypeOf", "(internal/reflectlite.Value).Elem", "(internal/reflectlite.Value).Set", "maps.clone", "internal/abi.NoEscape"], unfollowed := true, recurses := true, named := ["internal/bytealg.MaxLen", "unicode/utf8.first", "unicode/utf8.acceptRanges", "errors.errorType"], apart := false, laid := [("unicode/utf8.acceptRanges", laid_unicode_utf8_acceptRanges), ("errors.errorType", laid_errors_errorType), ("unicode/utf8.first", laid_unicode_utf8_first)], narrowed := true }
def BracketsKnownUptoSaid : Prop := bracketsKnownUptoRow.holds Tryz.pinned (OpenSpec.upto bracketsKnownSpec)

end Rows
end Go.Proofs.YtddnhlobnembaaaGreatDoor
