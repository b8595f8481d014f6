/-
  DERIVED. GIVEN WITH THE SEED: THE CARDS: each row of YtddnhlobnembaaaGreatDoorRows.lean that lists a variable, with what it lists TIED to the program's text (the seventh form; the later family's looks); each row that meets fmt, with fmt's text TOLD by the authors' own Lean function (tested against real Go, not proved from fmt's source: count such statements apart). THE CARD IS WHAT COUNTS. Prove the row's statement (the work); the ties are given (YtddnhlobnembaaaGreatDoorTie.lean); close each card by the builder's one call (the guide's Derived/Test/ToyasCard.lean, 'card_holds'). Laid BY PROGRAM, IN A SANDBOX (cutbox-door.mjs). By AI agents, Wed Nov 11 2026. No macro, syntax, notation, axiom, sorry.
-/
import Derived.Test.YtddnhlobnembaaaGreatDoorRows
import GoSem.ClaimSeven
namespace Go.Proofs.YtddnhlobnembaaaGreatDoor
namespace Rows

/-- THE TIED CARD OF 'furrowlaw08.BracketsNew'. -/
def bracketsNewCard : Claim7 := { stood := { row := bracketsNewRow, standIns := [], harness := (true, "8cf5d9208a3208fc0c5b05ff79f6050f80de58f61b0eb293200c6604c336d1b4"), looks := true }, kinds := [], alts := [], laidByText := true, laidKinds := [.data, .handle, .pinned], laidTests := true, laidLooks := .later }
def BracketsNewCardSaid : Prop := Claim7.holds Tryz.pinned (.plain (OpenSpec.ofChange bracketsNewSpec)) bracketsNewCard

/-- THE TIED CARD OF 'furrowlaw08.BracketsBack'. -/
def bracketsBackCard : Claim7 := { stood := { row := bracketsBackRow, standIns := [], harness := (true, "8cf5d9208a3208fc0c5b05ff79f6050f80de58f61b0eb293200c6604c336d1b4"), looks := true }, kinds := [], alts := [], laidByText := true, laidKinds := [.data, .handle, .pinned], laidTests := true, laidLooks := .later }
def BracketsBackCardSaid : Prop := Claim7.holds Tryz.pinned (.plain (OpenSpec.ofChange bracketsBackSpec)) bracketsBackCard

/-- THE TIED CARD OF 'furrowlaw08.BracketsParse'. -/
def bracketsParseCard : Claim7 := { stood := { row := bracketsParseRow, standIns := [], harness := (true, "8cf5d9208a3208fc0c5b05ff79f6050f80de58f61b0eb293200c6604c336d1b4"), looks := true }, kinds := [], alts := [], laidByText := true, laidKinds := [.data, .handle, .pinned], laidTests := true, laidLooks := .later }
def BracketsParseCardSaid : Prop := Claim7.holds Tryz.pinned (.plain (OpenSpec.ofChange bracketsParseSpec)) bracketsParseCard

/-- THE TIED CARD OF 'furrowlaw08.BracketsTwins'. -/
def bracketsTwinsCard : Claim7 := { stood := { row := bracketsTwinsRow, standIns := [], harness := (true, "8cf5d9208a3208fc0c5b05ff79f6050f80de58f61b0eb293200c6604c336d1b4"), looks := true }, kinds := [], alts := [], laidByText := true, laidKinds := [.data, .handle, .pinned], laidTests := true, laidLooks := .later }
def BracketsTwinsCardSaid : Prop := Claim7.holds Tryz.pinned (.plain (OpenSpec.ofChange bracketsTwinsSpec)) bracketsTwinsCard

/-- THE TIED CARD OF 'furrowlaw08.BracketsNil'. -/
def bracketsNilCard : Claim7 := { stood := { row := bracketsNilRow, standIns := [], harness := (true, "8cf5d9208a3208fc0c5b05ff79f6050f80de58f61b0eb293200c6604c336d1b4"), looks := true }, kinds := [], alts := [], laidByText := true, laidKinds := [.data, .handle, .pinned], laidTests := true, laidLooks := .later }
def BracketsNilCardSaid : Prop := Claim7.holds Tryz.pinned (.plain (OpenSpec.ofChange bracketsNilSpec)) bracketsNilCard

/-- THE TIED CARD OF 'furrowlaw08.BracketsPairs'. -/
def bracketsPairsCard : Claim7 := { stood := { row := bracketsPairsRow, standIns := [], harness := (true, "8cf5d9208a3208fc0c5b05ff79f6050f80de58f61b0eb293200c6604c336d1b4"), looks := true }, kinds := [], alts := [], laidByText := true, laidKinds := [.data, .handle, .pinned], laidTests := true, laidLooks := .later }
def BracketsPairsCardSaid : Prop := Claim7.holds Tryz.pinned (.plain (OpenSpec.ofChange bracketsPairsSpec)) bracketsPairsCard

/-- THE TIED CARD OF 'furrowlaw08.BracketsKnown'. -/
def bracketsKnownCard : Claim7 := { stood := { row := bracketsKnownRow, standIns := [], harness := (true, "8cf5d9208a3208fc0c5b05ff79f6050f80de58f61b0eb293200c6604c336d1b4"), looks := true }, kinds := [], alts := [], laidByText := true, laidKinds := [.data, .handle, .pinned], laidTests := true, laidLooks := .later }
def BracketsKnownCardSaid : Prop := Claim7.holds Tryz.pinned (.plain (OpenSpec.ofChange bracketsKnownSpec)) bracketsKnownCard

/-- THE SECOND FORM's CARD OF 'furrowlaw08.BracketsNew'. -/
def bracketsNewUptoCard : Claim7 := { stood := { row := bracketsNewUptoRow, standIns := [], harness := (true, "8cf5d9208a3208fc0c5b05ff79f6050f80de58f61b0eb293200c6604c336d1b4"), looks := true }, kinds := [], alts := [], laidByText := true, laidKinds := [.data, .handle, .pinned], laidTests := true, laidLooks := .later }
def BracketsNewUptoCardSaid : Prop := Claim7.holds Tryz.pinned (.plain (OpenSpec.upto bracketsNewSpec)) bracketsNewUptoCard

/-- THE SECOND FORM's CARD OF 'furrowlaw08.BracketsBack'. -/
def bracketsBackUptoCard : Claim7 := { stood := { row := bracketsBackUptoRow, standIns := [], harness := (true, "8cf5d9208a3208fc0c5b05ff79f6050f80de58f61b0eb293200c6604c336d1b4"), looks := true }, kinds := [], alts := [], laidByText := true, laidKinds := [.data, .handle, .pinned], laidTests := true, laidLooks := .later }
def BracketsBackUptoCardSaid : Prop := Claim7.holds Tryz.pinned (.plain (OpenSpec.upto bracketsBackSpec)) bracketsBackUptoCard

/-- THE SECOND FORM's CARD OF 'furrowlaw08.BracketsParse'. -/
def bracketsParseUptoCard : Claim7 := { stood := { row := bracketsParseUptoRow, standIns := [], harness := (true, "8cf5d9208a3208fc0c5b05ff79f6050f80de58f61b0eb293200c6604c336d1b4"), looks := true }, kinds := [], alts := [], laidByText := true, laidKinds := [.data, .handle, .pinned], laidTests := true, laidLooks := .later }
def BracketsParseUptoCardSaid : Prop := Claim7.holds Tryz.pinned (.plain (OpenSpec.upto bracketsParseSpec)) bracketsParseUptoCard

/-- THE SECOND FORM's CARD OF 'furrowlaw08.BracketsTwins'. -/
def bracketsTwinsUptoCard : Claim7 := { stood := { row := bracketsTwinsUptoRow, standIns := [], harness := (true, "8cf5d9208a3208fc0c5b05ff79f6050f80de58f61b0eb293200c6604c336d1b4"), looks := true }, kinds := [], alts := [], laidByText := true, laidKinds := [.data, .handle, .pinned], laidTests := true, laidLooks := .later }
def BracketsTwinsUptoCardSaid : Prop := Claim7.holds Tryz.pinned (.plain (OpenSpec.upto bracketsTwinsSpec)) bracketsTwinsUptoCard

/-- THE SECOND FORM's CARD OF 'furrowlaw08.BracketsNil'. -/
def bracketsNilUptoCard : Claim7 := { stood := { row := bracketsNilUptoRow, standIns := [], harness := (true, "8cf5d9208a3208fc0c5b05ff79f6050f80de58f61b0eb293200c6604c336d1b4"), looks := true }, kinds := [], alts := [], laidByText := true, laidKinds := [.data, .handle, .pinned], laidTests := true, laidLooks := .later }
def BracketsNilUptoCardSaid : Prop := Claim7.holds Tryz.pinned (.plain (OpenSpec.upto bracketsNilSpec)) bracketsNilUptoCard

/-- THE SECOND FORM's CARD OF 'furrowlaw08.BracketsPairs'. -/
def bracketsPairsUptoCard : Claim7 := { stood := { row := bracketsPairsUptoRow, standIns := [], harness := (true, "8cf5d9208a3208fc0c5b05ff79f6050f80de58f61b0eb293200c6604c336d1b4"), looks := true }, kinds := [], alts := [], laidByText := true, laidKinds := [.data, .handle, .pinned], laidTests := true, laidLooks := .later }
def BracketsPairsUptoCardSaid : Prop := Claim7.holds Tryz.pinned (.plain (OpenSpec.upto bracketsPairsSpec)) bracketsPairsUptoCard

/-- THE SECOND FORM's CARD OF 'furrowlaw08.BracketsKnown'. -/
def bracketsKnownUptoCard : Claim7 := { stood := { row := bracketsKnownUptoRow, standIns := [], harness := (true, "8cf5d9208a3208fc0c5b05ff79f6050f80de58f61b0eb293200c6604c336d1b4"), looks := true }, kinds := [], alts := [], laidByText := true, laidKinds := [.data, .handle, .pinned], laidTests := true, laidLooks := .later }
def BracketsKnownUptoCardSaid : Prop := Claim7.holds Tryz.pinned (.plain (OpenSpec.upto bracketsKnownSpec)) bracketsKnownUptoCard
end Rows
end Go.Proofs.YtddnhlobnembaaaGreatDoor
