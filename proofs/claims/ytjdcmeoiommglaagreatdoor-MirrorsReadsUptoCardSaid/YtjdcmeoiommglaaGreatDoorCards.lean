/-
  DERIVED. GIVEN WITH THE SEED: THE CARDS: each row of YtjdcmeoiommglaaGreatDoorRows.lean that lists a variable, with what it lists TIED to the program's text (the seventh form; the later family's looks); each row that meets fmt, with fmt's text TOLD by the authors' own Lean function (tested against real Go, not proved from fmt's source: count such statements apart). THE CARD IS WHAT COUNTS. Prove the row's statement (the work); the ties are given (YtjdcmeoiommglaaGreatDoorTie.lean); close each card by the builder's one call (the guide's Derived/Test/ToyasCard.lean, 'card_holds'). Laid BY PROGRAM, IN A SANDBOX (cutbox-door.mjs). By AI agents, Wed Nov 11 2026. No macro, syntax, notation, axiom, sorry.
-/
import Derived.Test.YtjdcmeoiommglaaGreatDoorRows
import GoSem.ClaimSeven
namespace Go.Proofs.YtjdcmeoiommglaaGreatDoor
namespace Rows

/-- THE TIED CARD OF 'furrowlaw09.MirrorsReads'. -/
def mirrorsReadsCard : Claim7 := { stood := { row := mirrorsReadsRow, standIns := [], harness := (true, "b269104277cf946b4573aff7fb2a316b6076cd47c204998cbeb2520c4d163f1e"), looks := true }, kinds := [], alts := [], laidByText := true, laidKinds := [.data, .handle, .pinned], laidTests := true, laidLooks := .later }
def MirrorsReadsCardSaid : Prop := Claim7.holds Tryz.pinned (.plain (OpenSpec.ofChange mirrorsReadsSpec)) mirrorsReadsCard

/-- THE SECOND FORM's CARD OF 'furrowlaw09.MirrorsReads'. -/
def mirrorsReadsUptoCard : Claim7 := { stood := { row := mirrorsReadsUptoRow, standIns := [], harness := (true, "b269104277cf946b4573aff7fb2a316b6076cd47c204998cbeb2520c4d163f1e"), looks := true }, kinds := [], alts := [], laidByText := true, laidKinds := [.data, .handle, .pinned], laidTests := true, laidLooks := .later }
def MirrorsReadsUptoCardSaid : Prop := Claim7.holds Tryz.pinned (.plain (OpenSpec.upto mirrorsReadsSpec)) mirrorsReadsUptoCard
end Rows
end Go.Proofs.YtjdcmeoiommglaaGreatDoor
