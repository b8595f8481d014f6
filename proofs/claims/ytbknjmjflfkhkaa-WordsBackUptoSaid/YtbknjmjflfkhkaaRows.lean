/-
  No cell of these rows narrows 'for every input' (looked for: loops, veiled, ifaces, maps, wideKeys, modest, calm, conditions, laid).
  DERIVED. THE GIVEN ROWS OF THIS SEAT. 10 by the template 'for every input the law returns true; each argument reads behind the call as it read before'; 0 by the template 'total and deterministic' (their statements: YtbknjmjflfkhkaaTotals.lean).
  GIVEN WITH THE SEED: the statements are not yours to turn. If you find one false, say at which input.
  Laid BY PROGRAM, IN A SANDBOX (cutbox-rows.mjs): the forced cells as the released guide's own fill.sh prints them over the translation 5a858ba83a30ffeb… (all of the seat's roots in one cut). By AI agents, Wed Nov 11 2026. No macro, syntax, notation, axiom, sorry.
-/
import Derived.Test.YtbknjmjflfkhkaaChecked
import GoSem.Claim
import GoSem.ClaimJoined
import GoSem.ClaimMapViews
import Derived.JoinedTies
import Derived.KernelRfl
namespace Go.Proofs.Ytbknjmjflfkhkaa
/- THE CELL 'sum', in the pinned program and in every row, IS THE sha256 OF THE DUMP (.gsa) THAT YtbknjmjflfkhkaaProg.lean LOADS. Nothing in Lean hashes anything: it is a label: what it is worth is what the hold of that sum in a sandbox is worth. -/
noncomputable def Try.pinned : Pinned := { name := "ytbknjmjflfkhkaa", sum := "5a858ba83a30ffebf673756191117a312c51ef9cc716c640bb8f807c46f259fd", checked := Try.checked }
namespace Rows
def none {H : Type} : Left H := { results := [], args := [] }

/-- 'furrowlaw05.WordsBlanks': WHATEVER THE INPUT: true; the input reads as it did. -/
def wordsBlanksSpec : ChangeSpec := { name := "wordsBlanks", fn := fun _ => fun
  | [d] => { results := [.lit (.bool true)], args := [d] }
  | _ => none }
def wordsBlanksRow : OpenClaim := { program := "ytbknjmjflfkhkaa", sum := "5a858ba83a30ffebf673756191117a312c51ef9cc716c640bb8f807c46f259fd", func := "furrow/furrowlaw05.WordsBlanks", spec := "wordsBlanks", unfollowed := true, recurses := true, apart := false }
def WordsBlanksSaid : Prop := wordsBlanksRow.holds Try.pinned (OpenSpec.ofChange wordsBlanksSpec)

/-- ITS FALSE NEIGHBOUR: 'it returns false'. Refute it at one input. -/
def wordsBlanksWrong : ChangeSpec := { name := "wordsBlanks", fn := fun _ => fun
  | [d] => { results := [.lit (.bool false)], args := [d] }
  | _ => none }
def WordsBlanksWrongFalsely : Prop := wordsBlanksRow.holds Try.pinned (OpenSpec.ofChange wordsBlanksWrong)

/-- 'furrowlaw05.WordsEach': WHATEVER THE INPUT: true; the input reads as it did. -/
def wordsEachSpec : ChangeSpec := { name := "wordsEach", fn := fun _ => fun
  | [d1, d2] => { results := [.lit (.bool true)], args := [d1, d2] }
  | _ => none }
def wordsEachRow : OpenClaim := { program := "ytbknjmjflfkhkaa", sum := "5a858ba83a30ffebf673756191117a312c51ef9cc716c640bb8f807c46f259fd", func := "furrow/furrowlaw05.WordsEach", spec := "wordsEach", unfollowed := true, recurses := true, apart := false }
def WordsEachSaid : Prop := wordsEachRow.holds Try.pinned (OpenSpec.ofChange wordsEachSpec)

/-- ITS FALSE NEIGHBOUR: 'it returns false'. Refute it at one input. -/
def wordsEachWrong : ChangeSpec := { name := "wordsEach", fn := fun _ => fun
  | [d1, d2] => { results := [.lit (.bool false)], args := [d1, d2] }
  | _ => none }
def WordsEachWrongFalsely : Prop := wordsEachRow.holds Try.pinned (OpenSpec.ofChange wordsEachWrong)

/-- 'furrowlaw05.WordsLoose': WHATEVER THE INPUT: true; the input reads as it did. -/
def wordsLooseSpec : ChangeSpec := { name := "wordsLoose", fn := fun _ => fun
  | [d1, d2] => { results := [.lit (.bool true)], args := [d1, d2] }
  | _ => none }
def wordsLooseRow : OpenClaim := { program := "ytbknjmjflfkhkaa", sum := "5a858ba83a30ffebf673756191117a312c51ef9cc716c640bb8f807c46f259fd", func := "furrow/furrowlaw05.WordsLoose", spec := "wordsLoose", unfollowed := true, recurses := true, apart := false }
def WordsLooseSaid : Prop := wordsLooseRow.holds Try.pinned (OpenSpec.ofChange wordsLooseSpec)

/-- ITS FALSE NEIGHBOUR: 'it returns false'. Refute it at one input. -/
def wordsLooseWrong : ChangeSpec := { name := "wordsLoose", fn := fun _ => fun
  | [d1, d2] => { results := [.lit (.bool false)], args := [d1, d2] }
  | _ => none }
def WordsLooseWrongFalsely : Prop := wordsLooseRow.holds Try.pinned (OpenSpec.ofChange wordsLooseWrong)

/-- 'furrowlaw05.WordsNames': WHATEVER THE INPUT: true; the input reads as it did. -/
def wordsNamesSpec : ChangeSpec := { name := "wordsNames", fn := fun _ => fun
  | [d] => { results := [.lit (.bool true)], args := [d] }
  | _ => none }
def wordsNamesRow : OpenClaim := { program := "ytbknjmjflfkhkaa", sum := "5a858ba83a30ffebf673756191117a312c51ef9cc716c640bb8f807c46f259fd", func := "furrow/furrowlaw05.WordsNames", spec := "wordsNames", unfollowed := true, recurses := true, apart := false }
def WordsNamesSaid : Prop := wordsNamesRow.holds Try.pinned (OpenSpec.ofChange wordsNamesSpec)

/-- ITS FALSE NEIGHBOUR: 'it returns false'. Refute it at one input. -/
def wordsNamesWrong : ChangeSpec := { name := "wordsNames", fn := fun _ => fun
  | [d] => { results := [.lit (.bool false)], args := [d] }
  | _ => none }
def WordsNamesWrongFalsely : Prop := wordsNamesRow.holds Try.pinned (OpenSpec.ofChange wordsNamesWrong)

/-- 'furrowlaw05.WordsGo': WHATEVER THE INPUT: true; the input reads as it did. -/
def wordsGoSpec : ChangeSpec := { name := "wordsGo", fn := fun _ => fun
  | [d1, d2] => { results := [.lit (.bool true)], args := [d1, d2] }
  | _ => none }
def wordsGoRow : OpenClaim := { program := "ytbknjmjflfkhkaa", sum := "5a858ba83a30ffebf673756191117a312c51ef9cc716c640bb8f807c46f259fd", func := "furrow/furrowlaw05.WordsGo", spec := "wordsGo", unfollowed := true, recurses := true, apart := false }
def WordsGoSaid : Prop := wordsGoRow.holds Try.pinned (OpenSpec.ofChange wordsGoSpec)

/-- ITS FALSE NEIGHBOUR: 'it returns false'. Refute it at one input. -/
def wordsGoWrong : ChangeSpec := { name := "wordsGo", fn := fun _ => fun
  | [d1, d2] => { results := [.lit (.bool false)], args := [d1, d2] }
  | _ => none }
def WordsGoWrongFalsely : Prop := wordsGoRow.holds Try.pinned (OpenSpec.ofChange wordsGoWrong)

/-- 'furrowlaw05.WordsWhole': WHATEVER THE INPUT: true; the input reads as it did. -/
def wordsWholeSpec : ChangeSpec := { name := "wordsWhole", fn := fun _ => fun
  | [d1, d2] => { results := [.lit (.bool true)], args := [d1, d2] }
  | _ => none }
def wordsWholeRow : OpenClaim := { program := "ytbknjmjflfkhkaa", sum := "5a858ba83a30ffebf673756191117a312c51ef9cc716c640bb8f807c46f259fd", func := "furrow/furrowlaw05.WordsWhole", spec := "wordsWhole", unfollowed := true, recurses := true, apart := false }
def WordsWholeSaid : Prop := wordsWholeRow.holds Try.pinned (OpenSpec.ofChange wordsWholeSpec)

/-- ITS FALSE NEIGHBOUR: 'it returns false'. Refute it at one input. -/
def wordsWholeWrong : ChangeSpec := { name := "wordsWhole", fn := fun _ => fun
  | [d1, d2] => { results := [.lit (.bool false)], args := [d1, d2] }
  | _ => none }
def WordsWholeWrongFalsely : Prop := wordsWholeRow.holds Try.pinned (OpenSpec.ofChange wordsWholeWrong)

/-- 'furrowlaw05.WordsTold': WHATEVER THE INPUT: true; the input reads as it did. -/
def wordsToldSpec : ChangeSpec := { name := "wordsTold", fn := fun _ => fun
  | [d1, d2] => { results := [.lit (.bool true)], args := [d1, d2] }
  | _ => none }
def wordsToldRow : OpenClaim := { program := "ytbknjmjflfkhkaa", sum := "5a858ba83a30ffebf673756191117a312c51ef9cc716c640bb8f807c46f259fd", func := "furrow/furrowlaw05.WordsTold", spec := "wordsTold", unfollowed := true, recurses := true, apart := false }
def WordsToldSaid : Prop := wordsToldRow.holds Try.pinned (OpenSpec.ofChange wordsToldSpec)

/-- ITS FALSE NEIGHBOUR: 'it returns false'. Refute it at one input. -/
def wordsToldWrong : ChangeSpec := { name := "wordsTold", fn := fun _ => fun
  | [d1, d2] => { results := [.lit (.bool false)], args := [d1, d2] }
  | _ => none }
def WordsToldWrongFalsely : Prop := wordsToldRow.holds Try.pinned (OpenSpec.ofChange wordsToldWrong)

/-- 'furrowlaw05.WordsLists': WHATEVER THE INPUT: true; the input reads as it did. -/
def wordsListsSpec : ChangeSpec := { name := "wordsLists", fn := fun _ => fun
  | [d1, d2] => { results := [.lit (.bool true)], args := [d1, d2] }
  | _ => none }
def wordsListsRow : OpenClaim := { program := "ytbknjmjflfkhkaa", sum := "5a858ba83a30ffebf673756191117a312c51ef9cc716c640bb8f807c46f259fd", func := "furrow/furrowlaw05.WordsLists", spec := "wordsLists", inPlace := ["internal/abi.NoEscape", "internal/bytealg.MakeNoZero"], unfollowed := true, recurses := true, apart := false }
def WordsListsSaid : Prop := wordsListsRow.holds Try.pinned (OpenSpec.ofChange wordsListsSpec)

/-- ITS FALSE NEIGHBOUR: 'it returns false'. Refute it at one input. -/
def wordsListsWrong : ChangeSpec := { name := "wordsLists", fn := fun _ => fun
  | [d1, d2] => { results := [.lit (.bool false)], args := [d1, d2] }
  | _ => none }
def WordsListsWrongFalsely : Prop := wordsListsRow.holds Try.pinned (OpenSpec.ofChange wordsListsWrong)

/-- 'furrowlaw05.WordsKnown': WHATEVER THE INPUT: true; the input reads as it did. -/
def wordsKnownSpec : ChangeSpec := { name := "wordsKnown", fn := fun _ => fun
  | [] => { results := [.lit (.bool true)], args := [] }
  | _ => none }
def wordsKnownRow : OpenClaim := { program := "ytbknjmjflfkhkaa", sum := "5a858ba83a30ffebf673756191117a312c51ef9cc716c640bb8f807c46f259fd", func := "furrow/furrowlaw05.WordsKnown", spec := "wordsKnown", inPlace := ["internal/abi.NoEscape", "internal/bytealg.MakeNoZero"], unfollowed := true, recurses := true, apart := false }
def WordsKnownSaid : Prop := wordsKnownRow.holds Try.pinned (OpenSpec.ofChange wordsKnownSpec)

/-- ITS FALSE NEIGHBOUR: 'it returns false'. Refute it at one input. -/
def wordsKnownWrong : ChangeSpec := { name := "wordsKnown", fn := fun _ => fun
  | [] => { results := [.lit (.bool false)], args := [] }
  | _ => none }
def WordsKnownWrongFalsely : Prop := wordsKnownRow.holds Try.pinned (OpenSpec.ofChange wordsKnownWrong)

/-- 'furrowlaw05.WordsBack': WHATEVER THE INPUT: true; the input reads as it did. -/
def wordsBackSpec : ChangeSpec := { name := "wordsBack", fn := fun _ => fun
  | [d1, d2] => { results := [.lit (.bool true)], args := [d1, d2] }
  | _ => none }
def wordsBackRow : OpenClaim := { program := "ytbknjmjflfkhkaa", sum := "5a858ba83a30ffebf673756191117a312c51ef9cc716c640bb8f807c46f259fd", func := "furrow/furrowlaw05.WordsBack", spec := "wordsBack", inPlace := ["internal/abi.NoEscape", "internal/bytealg.MakeNoZero"], unfollowed := true, recurses := true, apart := false }
def WordsBackSaid : Prop := wordsBackRow.holds Try.pinned (OpenSpec.ofChange wordsBackSpec)

/-- ITS FALSE NEIGHBOUR: 'it returns false'. Refute it at one input. -/
def wordsBackWrong : ChangeSpec := { name := "wordsBack", fn := fun _ => fun
  | [d1, d2] => { results := [.lit (.bool false)], args := [d1, d2] }
  | _ => none }
def WordsBackWrongFalsely : Prop := wordsBackRow.holds Try.pinned (OpenSpec.ofChange wordsBackWrong)

/- THE SECOND FORM. 'bulk': how many values and letters a reading holds, each counted each time it is reached (what is shared counts as often as it is met; a slice's spare places count too). A statement '..UptoSaid' is the law's where the arguments, and the package variables that the reading takes, are together of bulk at most 1048576: NARROWER than '..Said'. Prove '..Said' where nothing that the law and all that it calls make is longer than what came in: it says more and counts as full. Else prove '..UptoSaid'. A law counts once. -/
mutual
def uptoBulk {H : Type} : DataW H → Nat
  | .lit (.string bytes) => bytes.length + 1
  | .lit _ => 1
  | .nil => 1
  | .ptr d => uptoBulk d + 1
  | .slice elems spare => uptoBulkAll elems + uptoBulkAll spare + 1
  | .agg parts => uptoBulkAll parts + 1
  | .iface _ d => uptoBulk d + 1
  | .map entries => uptoBulkEntries entries + 1
  | .held _ => 1
def uptoBulkAll {H : Type} : List (DataW H) → Nat
  | [] => 0
  | d :: r => uptoBulk d + uptoBulkAll r
def uptoBulkEntries {H : Type} : List (Lit × DataW H) → Nat
  | [] => 0
  | x :: r => uptoBulkEntry x + uptoBulkEntries r
def uptoBulkEntry {H : Type} : Lit × DataW H → Nat
  | (.string bytes, d) => bytes.length + uptoBulk d + 1
  | (_, d) => uptoBulk d + 1
 end
def uptoSmall : (H : Type) → List (DataW H) → Bool := fun _ ds => decide (uptoBulkAll ds ≤ 1048576)
def OpenSpec.upto (s : _root_.Go.ChangeSpec) : _root_.Go.OpenSpec := { _root_.Go.OpenSpec.ofChange s with cond := some uptoSmall }

/-- 'furrowlaw05.WordsBlanks', WHERE WHAT IT READS IS OF BULK AT MOST 1048576: true; the input reads as it did. -/
def wordsBlanksUptoRow : OpenClaim := { program := "ytbknjmjflfkhkaa", sum := "5a858ba83a30ffebf673756191117a312c51ef9cc716c640bb8f807c46f259fd", func := "furrow/furrowlaw05.WordsBlanks", spec := "wordsBlanks", unfollowed := true, recurses := true, apart := false, narrowed := true }
def WordsBlanksUptoSaid : Prop := wordsBlanksUptoRow.holds Try.pinned (OpenSpec.upto wordsBlanksSpec)

/-- 'furrowlaw05.WordsEach', WHERE WHAT IT READS IS OF BULK AT MOST 1048576: true; the input reads as it did. -/
def wordsEachUptoRow : OpenClaim := { program := "ytbknjmjflfkhkaa", sum := "5a858ba83a30ffebf673756191117a312c51ef9cc716c640bb8f807c46f259fd", func := "furrow/furrowlaw05.WordsEach", spec := "wordsEach", unfollowed := true, recurses := true, apart := false, narrowed := true }
def WordsEachUptoSaid : Prop := wordsEachUptoRow.holds Try.pinned (OpenSpec.upto wordsEachSpec)

/-- 'furrowlaw05.WordsLoose', WHERE WHAT IT READS IS OF BULK AT MOST 1048576: true; the input reads as it did. -/
def wordsLooseUptoRow : OpenClaim := { program := "ytbknjmjflfkhkaa", sum := "5a858ba83a30ffebf673756191117a312c51ef9cc716c640bb8f807c46f259fd", func := "furrow/furrowlaw05.WordsLoose", spec := "wordsLoose", unfollowed := true, recurses := true, apart := false, narrowed := true }
def WordsLooseUptoSaid : Prop := wordsLooseUptoRow.holds Try.pinned (OpenSpec.upto wordsLooseSpec)

/-- 'furrowlaw05.WordsNames', WHERE WHAT IT READS IS OF BULK AT MOST 1048576: true; the input reads as it did. -/
def wordsNamesUptoRow : OpenClaim := { program := "ytbknjmjflfkhkaa", sum := "5a858ba83a30ffebf673756191117a312c51ef9cc716c640bb8f807c46f259fd", func := "furrow/furrowlaw05.WordsNames", spec := "wordsNames", unfollowed := true, recurses := true, apart := false, narrowed := true }
def WordsNamesUptoSaid : Prop := wordsNamesUptoRow.holds Try.pinned (OpenSpec.upto wordsNamesSpec)

/-- 'furrowlaw05.WordsGo', WHERE WHAT IT READS IS OF BULK AT MOST 1048576: true; the input reads as it did. -/
def wordsGoUptoRow : OpenClaim := { program := "ytbknjmjflfkhkaa", sum := "5a858ba83a30ffebf673756191117a312c51ef9cc716c640bb8f807c46f259fd", func := "furrow/furrowlaw05.WordsGo", spec := "wordsGo", unfollowed := true, recurses := true, apart := false, narrowed := true }
def WordsGoUptoSaid : Prop := wordsGoUptoRow.holds Try.pinned (OpenSpec.upto wordsGoSpec)

/-- 'furrowlaw05.WordsWhole', WHERE WHAT IT READS IS OF BULK AT MOST 1048576: true; the input reads as it did. -/
def wordsWholeUptoRow : OpenClaim := { program := "ytbknjmjflfkhkaa", sum := "5a858ba83a30ffebf673756191117a312c51ef9cc716c640bb8f807c46f259fd", func := "furrow/furrowlaw05.WordsWhole", spec := "wordsWhole", unfollowed := true, recurses := true, apart := false, narrowed := true }
def WordsWholeUptoSaid : Prop := wordsWholeUptoRow.holds Try.pinned (OpenSpec.upto wordsWholeSpec)

/-- 'furrowlaw05.WordsTold', WHERE WHAT IT READS IS OF BULK AT MOST 1048576: true; the input reads as it did. -/
def wordsToldUptoRow : OpenClaim := { program := "ytbknjmjflfkhkaa", sum := "5a858ba83a30ffebf673756191117a312c51ef9cc716c640bb8f807c46f259fd", func := "furrow/furrowlaw05.WordsTold", spec := "wordsTold", unfollowed := true, recurses := true, apart := false, narrowed := true }
def WordsToldUptoSaid : Prop := wordsToldUptoRow.holds Try.pinned (OpenSpec.upto wordsToldSpec)

/-- 'furrowlaw05.WordsLists', WHERE WHAT IT READS IS OF BULK AT MOST 1048576: true; the input reads as it did. -/
def wordsListsUptoRow : OpenClaim := { program := "ytbknjmjflfkhkaa", sum := "5a858ba83a30ffebf673756191117a312c51ef9cc716c640bb8f807c46f259fd", func := "furrow/furrowlaw05.WordsLists", spec := "wordsLists", inPlace := ["internal/abi.NoEscape", "internal/bytealg.MakeNoZero"], unfollowed := true, recurses := true, apart := false, narrowed := true }
def WordsListsUptoSaid : Prop := wordsListsUptoRow.holds Try.pinned (OpenSpec.upto wordsListsSpec)

/-- 'furrowlaw05.WordsKnown', WHERE WHAT IT READS IS OF BULK AT MOST 1048576: true; the input reads as it did. -/
def wordsKnownUptoRow : OpenClaim := { program := "ytbknjmjflfkhkaa", sum := "5a858ba83a30ffebf673756191117a312c51ef9cc716c640bb8f807c46f259fd", func := "furrow/furrowlaw05.WordsKnown", spec := "wordsKnown", inPlace := ["internal/abi.NoEscape", "internal/bytealg.MakeNoZero"], unfollowed := true, recurses := true, apart := false, narrowed := true }
def WordsKnownUptoSaid : Prop := wordsKnownUptoRow.holds Try.pinned (OpenSpec.upto wordsKnownSpec)

/-- 'furrowlaw05.WordsBack', WHERE WHAT IT READS IS OF BULK AT MOST 1048576: true; the input reads as it did. -/
def wordsBackUptoRow : OpenClaim := { program := "ytbknjmjflfkhkaa", sum := "5a858ba83a30ffebf673756191117a312c51ef9cc716c640bb8f807c46f259fd", func := "furrow/furrowlaw05.WordsBack", spec := "wordsBack", inPlace := ["internal/abi.NoEscape", "internal/bytealg.MakeNoZero"], unfollowed := true, recurses := true, apart := false, narrowed := true }
def WordsBackUptoSaid : Prop := wordsBackUptoRow.holds Try.pinned (OpenSpec.upto wordsBackSpec)

end Rows
end Go.Proofs.Ytbknjmjflfkhkaa
