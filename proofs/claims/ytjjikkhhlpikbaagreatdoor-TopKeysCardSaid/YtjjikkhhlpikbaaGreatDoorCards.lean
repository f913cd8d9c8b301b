/-
  DERIVED. GIVEN WITH THE SEED: THE CARDS: each row of YtjjikkhhlpikbaaGreatDoorRows.lean that lists a variable, with what it lists TIED to the program's text (the seventh form; the later family's looks); each row that meets fmt, with fmt's text TOLD by the authors' own Lean function (tested against real Go, not proved from fmt's source: count such statements apart). THE CARD IS WHAT COUNTS. Prove the row's statement (the work); the ties are given (YtjjikkhhlpikbaaGreatDoorTie.lean); close each card by the builder's one call (the guide's Derived/Test/ToyasCard.lean, 'card_holds'). Laid BY PROGRAM, IN A SANDBOX (cutbox-door.mjs). By AI agents, Wed Nov 11 2026. No macro, syntax, notation, axiom, sorry.
-/
import Derived.Test.YtjjikkhhlpikbaaGreatDoorRows
import GoSem.ClaimSeven
namespace Go.Proofs.YtjjikkhhlpikbaaGreatDoor
namespace Rows

/-- THE TIED CARD OF 'cabinetrytop.TopKeys'. -/
def topKeysCard : Claim7 := { stood := { row := topKeysRow, standIns := [], harness := (true, "1cdda8f378d45e26ce69a94069e11320d1ba9e74c242f13bed3cc9b2a34a6ee6"), looks := false }, kinds := [], alts := [], laidByText := true, laidKinds := [.data, .pinned], laidTests := true, laidLooks := .later }
def TopKeysCardSaid : Prop := Claim7.holds Tryz.pinned (.plain (OpenSpec.ofChange topKeysSpec)) topKeysCard

/-- THE SECOND FORM's CARD OF 'cabinetrytop.TopKeys'. -/
def topKeysUptoCard : Claim7 := { stood := { row := topKeysUptoRow, standIns := [], harness := (true, "1cdda8f378d45e26ce69a94069e11320d1ba9e74c242f13bed3cc9b2a34a6ee6"), looks := false }, kinds := [], alts := [], laidByText := true, laidKinds := [.data, .pinned], laidTests := true, laidLooks := .later }
def TopKeysUptoCardSaid : Prop := Claim7.holds Tryz.pinned (.plain (OpenSpec.upto topKeysSpec)) topKeysUptoCard
end Rows
end Go.Proofs.YtjjikkhhlpikbaaGreatDoor
