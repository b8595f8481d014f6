/-
  DERIVED. GIVEN WITH THE SEED: THE CARDS: each row of YtkclikfejmeblaaGreatDoorRows.lean that lists a variable, with what it lists TIED to the program's text (the seventh form; the later family's looks); each row that meets fmt, with fmt's text TOLD by the authors' own Lean function (tested against real Go, not proved from fmt's source: count such statements apart). THE CARD IS WHAT COUNTS. Prove the row's statement (the work); the ties are given (YtkclikfejmeblaaGreatDoorTie.lean); close each card by the builder's one call (the guide's Derived/Test/ToyasCard.lean, 'card_holds'). Laid BY PROGRAM, IN A SANDBOX (cutbox-door.mjs). By AI agents, Wed Nov 11 2026. No macro, syntax, notation, axiom, sorry.
-/
import Derived.Test.YtkclikfejmeblaaGreatDoorRows
import GoSem.ClaimSeven
namespace Go.Proofs.YtkclikfejmeblaaGreatDoor
namespace Rows

/-- THE TIED CARD OF 'furrowlaw07.ClassesNames'. -/
def classesNamesCard : Claim7 := { stood := { row := classesNamesRow, standIns := [], harness := (true, "e7a0c9bb585527edabe878e8b7f812100bf132d346c7cd71f5a844b5438f4196"), looks := true }, kinds := [], alts := [], laidByText := true, laidKinds := [.data, .pinned], laidTests := true, laidLooks := .later }
def ClassesNamesCardSaid : Prop := Claim7.holds Tryz.pinned (.plain (OpenSpec.ofChange classesNamesSpec)) classesNamesCard

/-- THE TIED CARD OF 'furrowlaw07.ClassesWhole'. -/
def classesWholeCard : Claim7 := { stood := { row := classesWholeRow, standIns := [], harness := (true, "e7a0c9bb585527edabe878e8b7f812100bf132d346c7cd71f5a844b5438f4196"), looks := true }, kinds := [], alts := [], laidByText := true, laidKinds := [.data, .pinned], laidTests := true, laidLooks := .later }
def ClassesWholeCardSaid : Prop := Claim7.holds Tryz.pinned (.plain (OpenSpec.ofChange classesWholeSpec)) classesWholeCard

/-- THE TIED CARD OF 'furrowlaw07.ClassesNotes'. -/
def classesNotesCard : Claim7 := { stood := { row := classesNotesRow, standIns := [], harness := (true, "e7a0c9bb585527edabe878e8b7f812100bf132d346c7cd71f5a844b5438f4196"), looks := true }, kinds := [], alts := [], laidByText := true, laidKinds := [.data, .pinned], laidTests := true, laidLooks := .later }
def ClassesNotesCardSaid : Prop := Claim7.holds Tryz.pinned (.plain (OpenSpec.ofChange classesNotesSpec)) classesNotesCard

/-- THE TIED CARD OF 'furrowlaw07.ClassesNone'. -/
def classesNoneCard : Claim7 := { stood := { row := classesNoneRow, standIns := [], harness := (true, "e7a0c9bb585527edabe878e8b7f812100bf132d346c7cd71f5a844b5438f4196"), looks := true }, kinds := [], alts := [], laidByText := true, laidKinds := [.data, .pinned], laidTests := true, laidLooks := .later }
def ClassesNoneCardSaid : Prop := Claim7.holds Tryz.pinned (.plain (OpenSpec.ofChange classesNoneSpec)) classesNoneCard

/-- THE TIED CARD OF 'furrowlaw07.ClassesBack'. -/
def classesBackCard : Claim7 := { stood := { row := classesBackRow, standIns := [], harness := (true, "e7a0c9bb585527edabe878e8b7f812100bf132d346c7cd71f5a844b5438f4196"), looks := true }, kinds := [], alts := [], laidByText := true, laidKinds := [.data, .pinned], laidTests := true, laidLooks := .later }
def ClassesBackCardSaid : Prop := Claim7.holds Tryz.pinned (.plain (OpenSpec.ofChange classesBackSpec)) classesBackCard

/-- THE TIED CARD OF 'furrowlaw07.ClassesReads'. -/
def classesReadsCard : Claim7 := { stood := { row := classesReadsRow, standIns := [], harness := (true, "e7a0c9bb585527edabe878e8b7f812100bf132d346c7cd71f5a844b5438f4196"), looks := true }, kinds := [], alts := [], laidByText := true, laidKinds := [.data, .handle, .pinned], laidTests := true, laidLooks := .later }
def ClassesReadsCardSaid : Prop := Claim7.holds Tryz.pinned (.plain (OpenSpec.ofChange classesReadsSpec)) classesReadsCard

/-- THE SECOND FORM's CARD OF 'furrowlaw07.ClassesNames'. -/
def classesNamesUptoCard : Claim7 := { stood := { row := classesNamesUptoRow, standIns := [], harness := (true, "e7a0c9bb585527edabe878e8b7f812100bf132d346c7cd71f5a844b5438f4196"), looks := true }, kinds := [], alts := [], laidByText := true, laidKinds := [.data, .pinned], laidTests := true, laidLooks := .later }
def ClassesNamesUptoCardSaid : Prop := Claim7.holds Tryz.pinned (.plain (OpenSpec.upto classesNamesSpec)) classesNamesUptoCard

/-- THE SECOND FORM's CARD OF 'furrowlaw07.ClassesWhole'. -/
def classesWholeUptoCard : Claim7 := { stood := { row := classesWholeUptoRow, standIns := [], harness := (true, "e7a0c9bb585527edabe878e8b7f812100bf132d346c7cd71f5a844b5438f4196"), looks := true }, kinds := [], alts := [], laidByText := true, laidKinds := [.data, .pinned], laidTests := true, laidLooks := .later }
def ClassesWholeUptoCardSaid : Prop := Claim7.holds Tryz.pinned (.plain (OpenSpec.upto classesWholeSpec)) classesWholeUptoCard

/-- THE SECOND FORM's CARD OF 'furrowlaw07.ClassesNotes'. -/
def classesNotesUptoCard : Claim7 := { stood := { row := classesNotesUptoRow, standIns := [], harness := (true, "e7a0c9bb585527edabe878e8b7f812100bf132d346c7cd71f5a844b5438f4196"), looks := true }, kinds := [], alts := [], laidByText := true, laidKinds := [.data, .pinned], laidTests := true, laidLooks := .later }
def ClassesNotesUptoCardSaid : Prop := Claim7.holds Tryz.pinned (.plain (OpenSpec.upto classesNotesSpec)) classesNotesUptoCard

/-- THE SECOND FORM's CARD OF 'furrowlaw07.ClassesNone'. -/
def classesNoneUptoCard : Claim7 := { stood := { row := classesNoneUptoRow, standIns := [], harness := (true, "e7a0c9bb585527edabe878e8b7f812100bf132d346c7cd71f5a844b5438f4196"), looks := true }, kinds := [], alts := [], laidByText := true, laidKinds := [.data, .pinned], laidTests := true, laidLooks := .later }
def ClassesNoneUptoCardSaid : Prop := Claim7.holds Tryz.pinned (.plain (OpenSpec.upto classesNoneSpec)) classesNoneUptoCard

/-- THE SECOND FORM's CARD OF 'furrowlaw07.ClassesBack'. -/
def classesBackUptoCard : Claim7 := { stood := { row := classesBackUptoRow, standIns := [], harness := (true, "e7a0c9bb585527edabe878e8b7f812100bf132d346c7cd71f5a844b5438f4196"), looks := true }, kinds := [], alts := [], laidByText := true, laidKinds := [.data, .pinned], laidTests := true, laidLooks := .later }
def ClassesBackUptoCardSaid : Prop := Claim7.holds Tryz.pinned (.plain (OpenSpec.upto classesBackSpec)) classesBackUptoCard

/-- THE SECOND FORM's CARD OF 'furrowlaw07.ClassesReads'. -/
def classesReadsUptoCard : Claim7 := { stood := { row := classesReadsUptoRow, standIns := [], harness := (true, "e7a0c9bb585527edabe878e8b7f812100bf132d346c7cd71f5a844b5438f4196"), looks := true }, kinds := [], alts := [], laidByText := true, laidKinds := [.data, .handle, .pinned], laidTests := true, laidLooks := .later }
def ClassesReadsUptoCardSaid : Prop := Claim7.holds Tryz.pinned (.plain (OpenSpec.upto classesReadsSpec)) classesReadsUptoCard
end Rows
end Go.Proofs.YtkclikfejmeblaaGreatDoor
