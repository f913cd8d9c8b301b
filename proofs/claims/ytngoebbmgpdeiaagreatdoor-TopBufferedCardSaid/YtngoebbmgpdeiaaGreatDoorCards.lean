/-
  DERIVED. GIVEN WITH THE SEED: THE CARDS: each row of YtngoebbmgpdeiaaGreatDoorRows.lean that lists a variable, with what it lists TIED to the program's text (the seventh form; the later family's looks); each row that meets fmt, with fmt's text TOLD by the authors' own Lean function (tested against real Go, not proved from fmt's source: count such statements apart). THE CARD IS WHAT COUNTS. Prove the row's statement (the work); the ties are given (YtngoebbmgpdeiaaGreatDoorTie.lean); close each card by the builder's one call (the guide's Derived/Test/ToyasCard.lean, 'card_holds'). Laid BY PROGRAM, IN A SANDBOX (cutbox-door.mjs). By AI agents, Wed Nov 11 2026. No macro, syntax, notation, axiom, sorry.
-/
import Derived.Test.YtngoebbmgpdeiaaGreatDoorRows
import GoSem.ClaimSeven
namespace Go.Proofs.YtngoebbmgpdeiaaGreatDoor
namespace Rows

/-- THE TIED CARD OF 'cabinetrytop.TopBuffered'. -/
def topBufferedCard : Claim7 := { stood := { row := topBufferedRow, standIns := [], harness := (true, "27941fe8f2cc30022ca97dc0e9fd24a9944568484d8863c87ed200eb46f44283"), looks := true }, kinds := [], alts := [], laidByText := true, laidKinds := [.pinned, .data, .handle], laidTests := true, laidLooks := .later }
def TopBufferedCardSaid : Prop := Claim7.holds Tryz.pinned (.plain (OpenSpec.ofChange topBufferedSpec)) topBufferedCard

/-- THE SECOND FORM's CARD OF 'cabinetrytop.TopBuffered'. -/
def topBufferedUptoCard : Claim7 := { stood := { row := topBufferedUptoRow, standIns := [], harness := (true, "27941fe8f2cc30022ca97dc0e9fd24a9944568484d8863c87ed200eb46f44283"), looks := true }, kinds := [], alts := [], laidByText := true, laidKinds := [.pinned, .data, .handle], laidTests := true, laidLooks := .later }
def TopBufferedUptoCardSaid : Prop := Claim7.holds Tryz.pinned (.plain (OpenSpec.upto topBufferedSpec)) topBufferedUptoCard
end Rows
end Go.Proofs.YtngoebbmgpdeiaaGreatDoor
