/-
  DERIVED. GIVEN WITH THE SEED: THE CARDS: each row of YtjdcmeoiommglaaDoorRows.lean that lists a variable, with what it lists TIED to the program's text (the seventh form; the later family's looks); each row that meets fmt, with fmt's text TOLD by the authors' own Lean function (tested against real Go, not proved from fmt's source: count such statements apart). THE CARD IS WHAT COUNTS. Prove the row's statement (the work); the ties are given (YtjdcmeoiommglaaDoorTie.lean); close each card by the builder's one call (the guide's Derived/Test/ToyasCard.lean, 'card_holds'). Laid BY PROGRAM, IN A SANDBOX (cutbox-door.mjs). By AI agents, Wed Nov 11 2026. No macro, syntax, notation, axiom, sorry.
-/
import Derived.Test.YtjdcmeoiommglaaDoorRows
import GoSem.ClaimSeven
namespace Go.Proofs.YtjdcmeoiommglaaDoor
namespace Rows

/-- THE TIED CARD OF 'furrowlaw09.MirrorsScans'. -/
def mirrorsScansCard : Claim7 := { stood := { row := mirrorsScansRow, standIns := [], harness := (true, "80677befdc62ac6ed354a6a6d87023c7e863a250ee488ab13b0feb70124c5c57"), looks := true }, kinds := [], alts := [], laidByText := true, laidKinds := [.data, .handle, .pinned], laidTests := true, laidLooks := .later }
def MirrorsScansCardSaid : Prop := Claim7.holds Tryd.pinned (.plain (OpenSpec.ofChange mirrorsScansSpec)) mirrorsScansCard

/-- THE TIED CARD OF 'furrowlaw09.MirrorsTexts'. -/
def mirrorsTextsCard : Claim7 := { stood := { row := mirrorsTextsRow, standIns := [], harness := (true, "80677befdc62ac6ed354a6a6d87023c7e863a250ee488ab13b0feb70124c5c57"), looks := true }, kinds := [], alts := [], laidByText := true, laidKinds := [.data, .handle, .pinned], laidTests := true, laidLooks := .later }
def MirrorsTextsCardSaid : Prop := Claim7.holds Tryd.pinned (.plain (OpenSpec.ofChange mirrorsTextsSpec)) mirrorsTextsCard

/-- THE TIED CARD OF 'furrowlaw09.MirrorsNames'. -/
def mirrorsNamesCard : Claim7 := { stood := { row := mirrorsNamesRow, standIns := [], harness := (true, "80677befdc62ac6ed354a6a6d87023c7e863a250ee488ab13b0feb70124c5c57"), looks := true }, kinds := [], alts := [], laidByText := true, laidKinds := [.data, .handle, .pinned], laidTests := true, laidLooks := .later }
def MirrorsNamesCardSaid : Prop := Claim7.holds Tryd.pinned (.plain (OpenSpec.ofChange mirrorsNamesSpec)) mirrorsNamesCard

/-- THE TIED CARD OF 'furrowlaw09.MirrorsOf'. -/
def mirrorsOfCard : Claim7 := { stood := { row := mirrorsOfRow, standIns := [], harness := (true, "80677befdc62ac6ed354a6a6d87023c7e863a250ee488ab13b0feb70124c5c57"), looks := true }, kinds := [], alts := [], laidByText := true, laidKinds := [.data, .handle, .pinned], laidTests := true, laidLooks := .later }
def MirrorsOfCardSaid : Prop := Claim7.holds Tryd.pinned (.plain (OpenSpec.ofChange mirrorsOfSpec)) mirrorsOfCard

/-- THE TIED CARD OF 'furrowlaw09.MirrorsTwice'. -/
def mirrorsTwiceCard : Claim7 := { stood := { row := mirrorsTwiceRow, standIns := [], harness := (true, "80677befdc62ac6ed354a6a6d87023c7e863a250ee488ab13b0feb70124c5c57"), looks := true }, kinds := [], alts := [], laidByText := true, laidKinds := [.data, .handle, .pinned], laidTests := true, laidLooks := .later }
def MirrorsTwiceCardSaid : Prop := Claim7.holds Tryd.pinned (.plain (OpenSpec.ofChange mirrorsTwiceSpec)) mirrorsTwiceCard

/-- THE TIED CARD OF 'furrowlaw09.MirrorsPlaces'. -/
def mirrorsPlacesCard : Claim7 := { stood := { row := mirrorsPlacesRow, standIns := [], harness := (true, "80677befdc62ac6ed354a6a6d87023c7e863a250ee488ab13b0feb70124c5c57"), looks := true }, kinds := [], alts := [], laidByText := true, laidKinds := [.data, .handle, .pinned], laidTests := true, laidLooks := .later }
def MirrorsPlacesCardSaid : Prop := Claim7.holds Tryd.pinned (.plain (OpenSpec.ofChange mirrorsPlacesSpec)) mirrorsPlacesCard

/-- THE TIED CARD OF 'furrowlaw09.MirrorsChecks'. -/
def mirrorsChecksCard : Claim7 := { stood := { row := mirrorsChecksRow, standIns := [], harness := (true, "80677befdc62ac6ed354a6a6d87023c7e863a250ee488ab13b0feb70124c5c57"), looks := true }, kinds := [], alts := [], laidByText := true, laidKinds := [.data, .handle, .pinned], laidTests := true, laidLooks := .later }
def MirrorsChecksCardSaid : Prop := Claim7.holds Tryd.pinned (.plain (OpenSpec.ofChange mirrorsChecksSpec)) mirrorsChecksCard

/-- THE TIED CARD OF 'furrowlaw09.MirrorsBack'. -/
def mirrorsBackCard : Claim7 := { stood := { row := mirrorsBackRow, standIns := [], harness := (true, "80677befdc62ac6ed354a6a6d87023c7e863a250ee488ab13b0feb70124c5c57"), looks := true }, kinds := [], alts := [], laidByText := true, laidKinds := [.data, .handle, .pinned], laidTests := true, laidLooks := .later }
def MirrorsBackCardSaid : Prop := Claim7.holds Tryd.pinned (.plain (OpenSpec.ofChange mirrorsBackSpec)) mirrorsBackCard

/-- THE TIED CARD OF 'furrowlaw09.MirrorsAgain'. -/
def mirrorsAgainCard : Claim7 := { stood := { row := mirrorsAgainRow, standIns := [], harness := (true, "80677befdc62ac6ed354a6a6d87023c7e863a250ee488ab13b0feb70124c5c57"), looks := true }, kinds := [], alts := [], laidByText := true, laidKinds := [.data, .handle, .pinned], laidTests := true, laidLooks := .later }
def MirrorsAgainCardSaid : Prop := Claim7.holds Tryd.pinned (.plain (OpenSpec.ofChange mirrorsAgainSpec)) mirrorsAgainCard

/-- THE SECOND FORM's CARD OF 'furrowlaw09.MirrorsScans'. -/
def mirrorsScansUptoCard : Claim7 := { stood := { row := mirrorsScansUptoRow, standIns := [], harness := (true, "80677befdc62ac6ed354a6a6d87023c7e863a250ee488ab13b0feb70124c5c57"), looks := true }, kinds := [], alts := [], laidByText := true, laidKinds := [.data, .handle, .pinned], laidTests := true, laidLooks := .later }
def MirrorsScansUptoCardSaid : Prop := Claim7.holds Tryd.pinned (.plain (OpenSpec.upto mirrorsScansSpec)) mirrorsScansUptoCard

/-- THE SECOND FORM's CARD OF 'furrowlaw09.MirrorsTexts'. -/
def mirrorsTextsUptoCard : Claim7 := { stood := { row := mirrorsTextsUptoRow, standIns := [], harness := (true, "80677befdc62ac6ed354a6a6d87023c7e863a250ee488ab13b0feb70124c5c57"), looks := true }, kinds := [], alts := [], laidByText := true, laidKinds := [.data, .handle, .pinned], laidTests := true, laidLooks := .later }
def MirrorsTextsUptoCardSaid : Prop := Claim7.holds Tryd.pinned (.plain (OpenSpec.upto mirrorsTextsSpec)) mirrorsTextsUptoCard

/-- THE SECOND FORM's CARD OF 'furrowlaw09.MirrorsNames'. -/
def mirrorsNamesUptoCard : Claim7 := { stood := { row := mirrorsNamesUptoRow, standIns := [], harness := (true, "80677befdc62ac6ed354a6a6d87023c7e863a250ee488ab13b0feb70124c5c57"), looks := true }, kinds := [], alts := [], laidByText := true, laidKinds := [.data, .handle, .pinned], laidTests := true, laidLooks := .later }
def MirrorsNamesUptoCardSaid : Prop := Claim7.holds Tryd.pinned (.plain (OpenSpec.upto mirrorsNamesSpec)) mirrorsNamesUptoCard

/-- THE SECOND FORM's CARD OF 'furrowlaw09.MirrorsOf'. -/
def mirrorsOfUptoCard : Claim7 := { stood := { row := mirrorsOfUptoRow, standIns := [], harness := (true, "80677befdc62ac6ed354a6a6d87023c7e863a250ee488ab13b0feb70124c5c57"), looks := true }, kinds := [], alts := [], laidByText := true, laidKinds := [.data, .handle, .pinned], laidTests := true, laidLooks := .later }
def MirrorsOfUptoCardSaid : Prop := Claim7.holds Tryd.pinned (.plain (OpenSpec.upto mirrorsOfSpec)) mirrorsOfUptoCard

/-- THE SECOND FORM's CARD OF 'furrowlaw09.MirrorsTwice'. -/
def mirrorsTwiceUptoCard : Claim7 := { stood := { row := mirrorsTwiceUptoRow, standIns := [], harness := (true, "80677befdc62ac6ed354a6a6d87023c7e863a250ee488ab13b0feb70124c5c57"), looks := true }, kinds := [], alts := [], laidByText := true, laidKinds := [.data, .handle, .pinned], laidTests := true, laidLooks := .later }
def MirrorsTwiceUptoCardSaid : Prop := Claim7.holds Tryd.pinned (.plain (OpenSpec.upto mirrorsTwiceSpec)) mirrorsTwiceUptoCard

/-- THE SECOND FORM's CARD OF 'furrowlaw09.MirrorsPlaces'. -/
def mirrorsPlacesUptoCard : Claim7 := { stood := { row := mirrorsPlacesUptoRow, standIns := [], harness := (true, "80677befdc62ac6ed354a6a6d87023c7e863a250ee488ab13b0feb70124c5c57"), looks := true }, kinds := [], alts := [], laidByText := true, laidKinds := [.data, .handle, .pinned], laidTests := true, laidLooks := .later }
def MirrorsPlacesUptoCardSaid : Prop := Claim7.holds Tryd.pinned (.plain (OpenSpec.upto mirrorsPlacesSpec)) mirrorsPlacesUptoCard

/-- THE SECOND FORM's CARD OF 'furrowlaw09.MirrorsChecks'. -/
def mirrorsChecksUptoCard : Claim7 := { stood := { row := mirrorsChecksUptoRow, standIns := [], harness := (true, "80677befdc62ac6ed354a6a6d87023c7e863a250ee488ab13b0feb70124c5c57"), looks := true }, kinds := [], alts := [], laidByText := true, laidKinds := [.data, .handle, .pinned], laidTests := true, laidLooks := .later }
def MirrorsChecksUptoCardSaid : Prop := Claim7.holds Tryd.pinned (.plain (OpenSpec.upto mirrorsChecksSpec)) mirrorsChecksUptoCard

/-- THE SECOND FORM's CARD OF 'furrowlaw09.MirrorsBack'. -/
def mirrorsBackUptoCard : Claim7 := { stood := { row := mirrorsBackUptoRow, standIns := [], harness := (true, "80677befdc62ac6ed354a6a6d87023c7e863a250ee488ab13b0feb70124c5c57"), looks := true }, kinds := [], alts := [], laidByText := true, laidKinds := [.data, .handle, .pinned], laidTests := true, laidLooks := .later }
def MirrorsBackUptoCardSaid : Prop := Claim7.holds Tryd.pinned (.plain (OpenSpec.upto mirrorsBackSpec)) mirrorsBackUptoCard

/-- THE SECOND FORM's CARD OF 'furrowlaw09.MirrorsAgain'. -/
def mirrorsAgainUptoCard : Claim7 := { stood := { row := mirrorsAgainUptoRow, standIns := [], harness := (true, "80677befdc62ac6ed354a6a6d87023c7e863a250ee488ab13b0feb70124c5c57"), looks := true }, kinds := [], alts := [], laidByText := true, laidKinds := [.data, .handle, .pinned], laidTests := true, laidLooks := .later }
def MirrorsAgainUptoCardSaid : Prop := Claim7.holds Tryd.pinned (.plain (OpenSpec.upto mirrorsAgainSpec)) mirrorsAgainUptoCard
end Rows
end Go.Proofs.YtjdcmeoiommglaaDoor
