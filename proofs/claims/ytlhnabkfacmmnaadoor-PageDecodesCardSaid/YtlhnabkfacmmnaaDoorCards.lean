/-
  DERIVED. GIVEN WITH THE SEED: THE CARDS: each row of YtlhnabkfacmmnaaDoorRows.lean that lists a variable, with what it lists TIED to the program's text (the seventh form; the later family's looks); each row that meets fmt, with fmt's text TOLD by the authors' own Lean function (tested against real Go, not proved from fmt's source: count such statements apart). THE CARD IS WHAT COUNTS. Prove the row's statement (the work); the ties are given (YtlhnabkfacmmnaaDoorTie.lean); close each card by the builder's one call (the guide's Derived/Test/ToyasCard.lean, 'card_holds'). Laid BY PROGRAM, IN A SANDBOX (cutbox-door.mjs). By AI agents, Wed Nov 11 2026. No macro, syntax, notation, axiom, sorry.
-/
import Derived.Test.YtlhnabkfacmmnaaDoorRows
import GoSem.ClaimSeven
namespace Go.Proofs.YtlhnabkfacmmnaaDoor
namespace Rows

/-- THE TIED CARD OF 'cabinetrylaw02.PageEncodes'. -/
def pageEncodesCard : Claim7 := { stood := { row := pageEncodesRow, standIns := [], harness := (true, "e28f052ed641ac1dd97677f520139b4afba92d7d3df9ef858eebc5c717d6e832"), looks := false }, kinds := [], alts := [], laidByText := true, laidKinds := [.data, .pinned], laidTests := true, laidLooks := .later }
def PageEncodesCardSaid : Prop := Claim7.holds Tryd.pinned (.plain (OpenSpec.ofChange pageEncodesSpec)) pageEncodesCard

/-- THE TIED CARD OF 'cabinetrylaw02.PageDecodes'. -/
def pageDecodesCard : Claim7 := { stood := { row := pageDecodesRow, standIns := [], harness := (true, "e28f052ed641ac1dd97677f520139b4afba92d7d3df9ef858eebc5c717d6e832"), looks := false }, kinds := [], alts := [], laidByText := true, laidKinds := [.data, .pinned], laidTests := true, laidLooks := .later }
def PageDecodesCardSaid : Prop := Claim7.holds Tryd.pinned (.plain (OpenSpec.ofChange pageDecodesSpec)) pageDecodesCard

/-- THE SECOND FORM's CARD OF 'cabinetrylaw02.PageEncodes'. -/
def pageEncodesUptoCard : Claim7 := { stood := { row := pageEncodesUptoRow, standIns := [], harness := (true, "e28f052ed641ac1dd97677f520139b4afba92d7d3df9ef858eebc5c717d6e832"), looks := false }, kinds := [], alts := [], laidByText := true, laidKinds := [.data, .pinned], laidTests := true, laidLooks := .later }
def PageEncodesUptoCardSaid : Prop := Claim7.holds Tryd.pinned (.plain (OpenSpec.upto pageEncodesSpec)) pageEncodesUptoCard

/-- THE SECOND FORM's CARD OF 'cabinetrylaw02.PageDecodes'. -/
def pageDecodesUptoCard : Claim7 := { stood := { row := pageDecodesUptoRow, standIns := [], harness := (true, "e28f052ed641ac1dd97677f520139b4afba92d7d3df9ef858eebc5c717d6e832"), looks := false }, kinds := [], alts := [], laidByText := true, laidKinds := [.data, .pinned], laidTests := true, laidLooks := .later }
def PageDecodesUptoCardSaid : Prop := Claim7.holds Tryd.pinned (.plain (OpenSpec.upto pageDecodesSpec)) pageDecodesUptoCard
end Rows
end Go.Proofs.YtlhnabkfacmmnaaDoor
