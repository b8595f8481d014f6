/-
  DERIVED. GIVEN WITH THE SEED: THE CARDS: each row of YtapndpldphflcaaDoorRows.lean that lists a variable, with what it lists TIED to the program's text (the seventh form; the later family's looks); each row that meets fmt, with fmt's text TOLD by the authors' own Lean function (tested against real Go, not proved from fmt's source: count such statements apart). THE CARD IS WHAT COUNTS. Prove the row's statement (the work); the ties are given (YtapndpldphflcaaDoorTie.lean); close each card by the builder's one call (the guide's Derived/Test/ToyasCard.lean, 'card_holds'). Laid BY PROGRAM, IN A SANDBOX (cutbox-door.mjs). By AI agents, Wed Nov 11 2026. No macro, syntax, notation, axiom, sorry.
-/
import Derived.Test.YtapndpldphflcaaDoorRows
import GoSem.ClaimSeven
namespace Go.Proofs.YtapndpldphflcaaDoor
namespace Rows

/-- THE TIED CARD OF 'furrowlaw03.LinesEach'. -/
def linesEachCard : Claim7 := { stood := { row := linesEachRow, standIns := [], harness := (true, "e74e493084cf84e6f7f9c0a210217c418af422ce3a434792455a2e3caa4a6b20"), looks := true }, kinds := [], alts := [], laidByText := true, laidKinds := [.data, .handle, .pinned], laidTests := true, laidLooks := .later }
def LinesEachCardSaid : Prop := Claim7.holds Tryd.pinned (.plain (OpenSpec.ofChange linesEachSpec)) linesEachCard

/-- THE TIED CARD OF 'furrowlaw03.LinesChecks'. -/
def linesChecksCard : Claim7 := { stood := { row := linesChecksRow, standIns := [], harness := (true, "e74e493084cf84e6f7f9c0a210217c418af422ce3a434792455a2e3caa4a6b20"), looks := true }, kinds := [], alts := [], laidByText := true, laidKinds := [.data, .handle, .pinned], laidTests := true, laidLooks := .later }
def LinesChecksCardSaid : Prop := Claim7.holds Tryd.pinned (.plain (OpenSpec.ofChange linesChecksSpec)) linesChecksCard

/-- THE TIED CARD OF 'furrowlaw03.LinesCuts'. -/
def linesCutsCard : Claim7 := { stood := { row := linesCutsRow, standIns := [], harness := (true, "e74e493084cf84e6f7f9c0a210217c418af422ce3a434792455a2e3caa4a6b20"), looks := true }, kinds := [], alts := [], laidByText := true, laidKinds := [.data, .handle, .pinned], laidTests := true, laidLooks := .later }
def LinesCutsCardSaid : Prop := Claim7.holds Tryd.pinned (.plain (OpenSpec.ofChange linesCutsSpec)) linesCutsCard

/-- THE TIED CARD OF 'furrowlaw03.LinesScans'. -/
def linesScansCard : Claim7 := { stood := { row := linesScansRow, standIns := [], harness := (true, "e74e493084cf84e6f7f9c0a210217c418af422ce3a434792455a2e3caa4a6b20"), looks := true }, kinds := [], alts := [], laidByText := true, laidKinds := [.data, .handle, .pinned], laidTests := true, laidLooks := .later }
def LinesScansCardSaid : Prop := Claim7.holds Tryd.pinned (.plain (OpenSpec.ofChange linesScansSpec)) linesScansCard

/-- THE TIED CARD OF 'furrowlaw03.LinesReads'. -/
def linesReadsCard : Claim7 := { stood := { row := linesReadsRow, standIns := [], harness := (true, "e74e493084cf84e6f7f9c0a210217c418af422ce3a434792455a2e3caa4a6b20"), looks := true }, kinds := [], alts := [], laidByText := true, laidKinds := [.data, .handle, .pinned], laidTests := true, laidLooks := .later }
def LinesReadsCardSaid : Prop := Claim7.holds Tryd.pinned (.plain (OpenSpec.ofChange linesReadsSpec)) linesReadsCard

/-- THE TIED CARD OF 'furrowlaw03.LinesLost'. -/
def linesLostCard : Claim7 := { stood := { row := linesLostRow, standIns := [], harness := (true, "e74e493084cf84e6f7f9c0a210217c418af422ce3a434792455a2e3caa4a6b20"), looks := true }, kinds := [], alts := [], laidByText := true, laidKinds := [.data, .handle, .pinned], laidTests := true, laidLooks := .later }
def LinesLostCardSaid : Prop := Claim7.holds Tryd.pinned (.plain (OpenSpec.ofChange linesLostSpec)) linesLostCard

/-- THE TIED CARD OF 'furrowlaw03.LinesApart'. -/
def linesApartCard : Claim7 := { stood := { row := linesApartRow, standIns := [], harness := (true, "e74e493084cf84e6f7f9c0a210217c418af422ce3a434792455a2e3caa4a6b20"), looks := true }, kinds := [], alts := [], laidByText := true, laidKinds := [.data, .handle, .pinned], laidTests := true, laidLooks := .later }
def LinesApartCardSaid : Prop := Claim7.holds Tryd.pinned (.plain (OpenSpec.ofChange linesApartSpec)) linesApartCard

/-- THE TIED CARD OF 'furrowlaw03.LinesNames'. -/
def linesNamesCard : Claim7 := { stood := { row := linesNamesRow, standIns := [], harness := (true, "e74e493084cf84e6f7f9c0a210217c418af422ce3a434792455a2e3caa4a6b20"), looks := true }, kinds := [], alts := [], laidByText := true, laidKinds := [.data, .handle, .pinned], laidTests := true, laidLooks := .later }
def LinesNamesCardSaid : Prop := Claim7.holds Tryd.pinned (.plain (OpenSpec.ofChange linesNamesSpec)) linesNamesCard

/-- THE TIED CARD OF 'furrowlaw03.LinesPlaces'. -/
def linesPlacesCard : Claim7 := { stood := { row := linesPlacesRow, standIns := [], harness := (true, "e74e493084cf84e6f7f9c0a210217c418af422ce3a434792455a2e3caa4a6b20"), looks := true }, kinds := [], alts := [], laidByText := true, laidKinds := [.data, .handle, .pinned], laidTests := true, laidLooks := .later }
def LinesPlacesCardSaid : Prop := Claim7.holds Tryd.pinned (.plain (OpenSpec.ofChange linesPlacesSpec)) linesPlacesCard

/-- THE TIED CARD OF 'furrowlaw03.LinesWheres'. -/
def linesWheresCard : Claim7 := { stood := { row := linesWheresRow, standIns := [], harness := (true, "e74e493084cf84e6f7f9c0a210217c418af422ce3a434792455a2e3caa4a6b20"), looks := true }, kinds := [], alts := [], laidByText := true, laidKinds := [.data, .handle, .pinned], laidTests := true, laidLooks := .later }
def LinesWheresCardSaid : Prop := Claim7.holds Tryd.pinned (.plain (OpenSpec.ofChange linesWheresSpec)) linesWheresCard

/-- THE TIED CARD OF 'furrowlaw03.LinesThere'. -/
def linesThereCard : Claim7 := { stood := { row := linesThereRow, standIns := [], harness := (true, "e74e493084cf84e6f7f9c0a210217c418af422ce3a434792455a2e3caa4a6b20"), looks := true }, kinds := [], alts := [], laidByText := true, laidKinds := [.data, .handle, .pinned], laidTests := true, laidLooks := .later }
def LinesThereCardSaid : Prop := Claim7.holds Tryd.pinned (.plain (OpenSpec.ofChange linesThereSpec)) linesThereCard

/-- THE TIED CARD OF 'furrowlaw03.LinesPrints'. -/
def linesPrintsCard : Claim7 := { stood := { row := linesPrintsRow, standIns := [], harness := (true, "e74e493084cf84e6f7f9c0a210217c418af422ce3a434792455a2e3caa4a6b20"), looks := true }, kinds := [], alts := [], laidByText := true, laidKinds := [.data, .handle, .pinned], laidTests := true, laidLooks := .later }
def LinesPrintsCardSaid : Prop := Claim7.holds Tryd.pinned (.plain (OpenSpec.ofChange linesPrintsSpec)) linesPrintsCard

/-- THE TIED CARD OF 'furrowlaw03.LinesBack'. -/
def linesBackCard : Claim7 := { stood := { row := linesBackRow, standIns := [], harness := (true, "e74e493084cf84e6f7f9c0a210217c418af422ce3a434792455a2e3caa4a6b20"), looks := true }, kinds := [], alts := [], laidByText := true, laidKinds := [.data, .handle, .pinned], laidTests := true, laidLooks := .later }
def LinesBackCardSaid : Prop := Claim7.holds Tryd.pinned (.plain (OpenSpec.ofChange linesBackSpec)) linesBackCard

/-- THE SECOND FORM's CARD OF 'furrowlaw03.LinesEach'. -/
def linesEachUptoCard : Claim7 := { stood := { row := linesEachUptoRow, standIns := [], harness := (true, "e74e493084cf84e6f7f9c0a210217c418af422ce3a434792455a2e3caa4a6b20"), looks := true }, kinds := [], alts := [], laidByText := true, laidKinds := [.data, .handle, .pinned], laidTests := true, laidLooks := .later }
def LinesEachUptoCardSaid : Prop := Claim7.holds Tryd.pinned (.plain (OpenSpec.upto linesEachSpec)) linesEachUptoCard

/-- THE SECOND FORM's CARD OF 'furrowlaw03.LinesChecks'. -/
def linesChecksUptoCard : Claim7 := { stood := { row := linesChecksUptoRow, standIns := [], harness := (true, "e74e493084cf84e6f7f9c0a210217c418af422ce3a434792455a2e3caa4a6b20"), looks := true }, kinds := [], alts := [], laidByText := true, laidKinds := [.data, .handle, .pinned], laidTests := true, laidLooks := .later }
def LinesChecksUptoCardSaid : Prop := Claim7.holds Tryd.pinned (.plain (OpenSpec.upto linesChecksSpec)) linesChecksUptoCard

/-- THE SECOND FORM's CARD OF 'furrowlaw03.LinesCuts'. -/
def linesCutsUptoCard : Claim7 := { stood := { row := linesCutsUptoRow, standIns := [], harness := (true, "e74e493084cf84e6f7f9c0a210217c418af422ce3a434792455a2e3caa4a6b20"), looks := true }, kinds := [], alts := [], laidByText := true, laidKinds := [.data, .handle, .pinned], laidTests := true, laidLooks := .later }
def LinesCutsUptoCardSaid : Prop := Claim7.holds Tryd.pinned (.plain (OpenSpec.upto linesCutsSpec)) linesCutsUptoCard

/-- THE SECOND FORM's CARD OF 'furrowlaw03.LinesScans'. -/
def linesScansUptoCard : Claim7 := { stood := { row := linesScansUptoRow, standIns := [], harness := (true, "e74e493084cf84e6f7f9c0a210217c418af422ce3a434792455a2e3caa4a6b20"), looks := true }, kinds := [], alts := [], laidByText := true, laidKinds := [.data, .handle, .pinned], laidTests := true, laidLooks := .later }
def LinesScansUptoCardSaid : Prop := Claim7.holds Tryd.pinned (.plain (OpenSpec.upto linesScansSpec)) linesScansUptoCard

/-- THE SECOND FORM's CARD OF 'furrowlaw03.LinesReads'. -/
def linesReadsUptoCard : Claim7 := { stood := { row := linesReadsUptoRow, standIns := [], harness := (true, "e74e493084cf84e6f7f9c0a210217c418af422ce3a434792455a2e3caa4a6b20"), looks := true }, kinds := [], alts := [], laidByText := true, laidKinds := [.data, .handle, .pinned], laidTests := true, laidLooks := .later }
def LinesReadsUptoCardSaid : Prop := Claim7.holds Tryd.pinned (.plain (OpenSpec.upto linesReadsSpec)) linesReadsUptoCard

/-- THE SECOND FORM's CARD OF 'furrowlaw03.LinesLost'. -/
def linesLostUptoCard : Claim7 := { stood := { row := linesLostUptoRow, standIns := [], harness := (true, "e74e493084cf84e6f7f9c0a210217c418af422ce3a434792455a2e3caa4a6b20"), looks := true }, kinds := [], alts := [], laidByText := true, laidKinds := [.data, .handle, .pinned], laidTests := true, laidLooks := .later }
def LinesLostUptoCardSaid : Prop := Claim7.holds Tryd.pinned (.plain (OpenSpec.upto linesLostSpec)) linesLostUptoCard

/-- THE SECOND FORM's CARD OF 'furrowlaw03.LinesApart'. -/
def linesApartUptoCard : Claim7 := { stood := { row := linesApartUptoRow, standIns := [], harness := (true, "e74e493084cf84e6f7f9c0a210217c418af422ce3a434792455a2e3caa4a6b20"), looks := true }, kinds := [], alts := [], laidByText := true, laidKinds := [.data, .handle, .pinned], laidTests := true, laidLooks := .later }
def LinesApartUptoCardSaid : Prop := Claim7.holds Tryd.pinned (.plain (OpenSpec.upto linesApartSpec)) linesApartUptoCard

/-- THE SECOND FORM's CARD OF 'furrowlaw03.LinesNames'. -/
def linesNamesUptoCard : Claim7 := { stood := { row := linesNamesUptoRow, standIns := [], harness := (true, "e74e493084cf84e6f7f9c0a210217c418af422ce3a434792455a2e3caa4a6b20"), looks := true }, kinds := [], alts := [], laidByText := true, laidKinds := [.data, .handle, .pinned], laidTests := true, laidLooks := .later }
def LinesNamesUptoCardSaid : Prop := Claim7.holds Tryd.pinned (.plain (OpenSpec.upto linesNamesSpec)) linesNamesUptoCard

/-- THE SECOND FORM's CARD OF 'furrowlaw03.LinesPlaces'. -/
def linesPlacesUptoCard : Claim7 := { stood := { row := linesPlacesUptoRow, standIns := [], harness := (true, "e74e493084cf84e6f7f9c0a210217c418af422ce3a434792455a2e3caa4a6b20"), looks := true }, kinds := [], alts := [], laidByText := true, laidKinds := [.data, .handle, .pinned], laidTests := true, laidLooks := .later }
def LinesPlacesUptoCardSaid : Prop := Claim7.holds Tryd.pinned (.plain (OpenSpec.upto linesPlacesSpec)) linesPlacesUptoCard

/-- THE SECOND FORM's CARD OF 'furrowlaw03.LinesWheres'. -/
def linesWheresUptoCard : Claim7 := { stood := { row := linesWheresUptoRow, standIns := [], harness := (true, "e74e493084cf84e6f7f9c0a210217c418af422ce3a434792455a2e3caa4a6b20"), looks := true }, kinds := [], alts := [], laidByText := true, laidKinds := [.data, .handle, .pinned], laidTests := true, laidLooks := .later }
def LinesWheresUptoCardSaid : Prop := Claim7.holds Tryd.pinned (.plain (OpenSpec.upto linesWheresSpec)) linesWheresUptoCard

/-- THE SECOND FORM's CARD OF 'furrowlaw03.LinesThere'. -/
def linesThereUptoCard : Claim7 := { stood := { row := linesThereUptoRow, standIns := [], harness := (true, "e74e493084cf84e6f7f9c0a210217c418af422ce3a434792455a2e3caa4a6b20"), looks := true }, kinds := [], alts := [], laidByText := true, laidKinds := [.data, .handle, .pinned], laidTests := true, laidLooks := .later }
def LinesThereUptoCardSaid : Prop := Claim7.holds Tryd.pinned (.plain (OpenSpec.upto linesThereSpec)) linesThereUptoCard

/-- THE SECOND FORM's CARD OF 'furrowlaw03.LinesPrints'. -/
def linesPrintsUptoCard : Claim7 := { stood := { row := linesPrintsUptoRow, standIns := [], harness := (true, "e74e493084cf84e6f7f9c0a210217c418af422ce3a434792455a2e3caa4a6b20"), looks := true }, kinds := [], alts := [], laidByText := true, laidKinds := [.data, .handle, .pinned], laidTests := true, laidLooks := .later }
def LinesPrintsUptoCardSaid : Prop := Claim7.holds Tryd.pinned (.plain (OpenSpec.upto linesPrintsSpec)) linesPrintsUptoCard

/-- THE SECOND FORM's CARD OF 'furrowlaw03.LinesBack'. -/
def linesBackUptoCard : Claim7 := { stood := { row := linesBackUptoRow, standIns := [], harness := (true, "e74e493084cf84e6f7f9c0a210217c418af422ce3a434792455a2e3caa4a6b20"), looks := true }, kinds := [], alts := [], laidByText := true, laidKinds := [.data, .handle, .pinned], laidTests := true, laidLooks := .later }
def LinesBackUptoCardSaid : Prop := Claim7.holds Tryd.pinned (.plain (OpenSpec.upto linesBackSpec)) linesBackUptoCard
end Rows
end Go.Proofs.YtapndpldphflcaaDoor
