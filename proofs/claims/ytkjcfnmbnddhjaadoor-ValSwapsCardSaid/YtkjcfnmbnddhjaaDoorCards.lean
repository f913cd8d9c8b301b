/-
  DERIVED. GIVEN WITH THE SEED: THE CARDS: each row of YtkjcfnmbnddhjaaDoorRows.lean that lists a variable, with what it lists TIED to the program's text (the seventh form; the later family's looks); each row that meets fmt, with fmt's text TOLD by the authors' own Lean function (tested against real Go, not proved from fmt's source: count such statements apart). THE CARD IS WHAT COUNTS. Prove the row's statement (the work); the ties are given (YtkjcfnmbnddhjaaDoorTie.lean); close each card by the builder's one call (the guide's Derived/Test/ToyasCard.lean, 'card_holds'). Laid BY PROGRAM, IN A SANDBOX (cutbox-door.mjs). By AI agents, Wed Nov 11 2026. No macro, syntax, notation, axiom, sorry.
-/
import Derived.Test.YtkjcfnmbnddhjaaDoorRows
import GoSem.ClaimSeven
namespace Go.Proofs.YtkjcfnmbnddhjaaDoor
namespace Rows

/-- THE TIED CARD OF 'cabinetrylaw01.ValDoes'. -/
def valDoesCard : Claim7 := { stood := { row := valDoesRow, standIns := [], harness := (true, "b0e2575192d11b15c47babb91c45279908020743339f46d5cad88154cf757604"), looks := false }, kinds := [], alts := [], laidByText := true, laidKinds := [.data, .pinned], laidTests := true, laidLooks := .later }
def ValDoesCardSaid : Prop := Claim7.holds Tryd.pinned (.plain (OpenSpec.ofChange valDoesSpec)) valDoesCard

/-- THE TIED CARD OF 'cabinetrylaw01.ValDivides'. -/
def valDividesCard : Claim7 := { stood := { row := valDividesRow, standIns := [], harness := (true, "b0e2575192d11b15c47babb91c45279908020743339f46d5cad88154cf757604"), looks := false }, kinds := [], alts := [], laidByText := true, laidKinds := [.data, .pinned], laidTests := true, laidLooks := .later }
def ValDividesCardSaid : Prop := Claim7.holds Tryd.pinned (.plain (OpenSpec.ofChange valDividesSpec)) valDividesCard

/-- THE TIED CARD OF 'cabinetrylaw01.ValDates'. -/
def valDatesCard : Claim7 := { stood := { row := valDatesRow, standIns := [], harness := (true, "b0e2575192d11b15c47babb91c45279908020743339f46d5cad88154cf757604"), looks := false }, kinds := [], alts := [], laidByText := true, laidKinds := [.data, .pinned], laidTests := true, laidLooks := .later }
def ValDatesCardSaid : Prop := Claim7.holds Tryd.pinned (.plain (OpenSpec.ofChange valDatesSpec)) valDatesCard

/-- THE TIED CARD OF 'cabinetrylaw01.ValEquals'. -/
def valEqualsCard : Claim7 := { stood := { row := valEqualsRow, standIns := [], harness := (true, "b0e2575192d11b15c47babb91c45279908020743339f46d5cad88154cf757604"), looks := false }, kinds := [], alts := [], laidByText := true, laidKinds := [.data, .pinned], laidTests := true, laidLooks := .later }
def ValEqualsCardSaid : Prop := Claim7.holds Tryd.pinned (.plain (OpenSpec.ofChange valEqualsSpec)) valEqualsCard

/-- THE TIED CARD OF 'cabinetrylaw01.ValCompares'. -/
def valComparesCard : Claim7 := { stood := { row := valComparesRow, standIns := [], harness := (true, "b0e2575192d11b15c47babb91c45279908020743339f46d5cad88154cf757604"), looks := false }, kinds := [], alts := [], laidByText := true, laidKinds := [.data, .pinned], laidTests := true, laidLooks := .later }
def ValComparesCardSaid : Prop := Claim7.holds Tryd.pinned (.plain (OpenSpec.ofChange valComparesSpec)) valComparesCard

/-- THE TIED CARD OF 'cabinetrylaw01.ValOrders'. -/
def valOrdersCard : Claim7 := { stood := { row := valOrdersRow, standIns := [], harness := (true, "b0e2575192d11b15c47babb91c45279908020743339f46d5cad88154cf757604"), looks := false }, kinds := [], alts := [], laidByText := true, laidKinds := [.data, .pinned], laidTests := true, laidLooks := .later }
def ValOrdersCardSaid : Prop := Claim7.holds Tryd.pinned (.plain (OpenSpec.ofChange valOrdersSpec)) valOrdersCard

/-- THE TIED CARD OF 'cabinetrylaw01.ValParts'. -/
def valPartsCard : Claim7 := { stood := { row := valPartsRow, standIns := [], harness := (true, "b0e2575192d11b15c47babb91c45279908020743339f46d5cad88154cf757604"), looks := false }, kinds := [], alts := [], laidByText := true, laidKinds := [.data, .pinned], laidTests := true, laidLooks := .later }
def ValPartsCardSaid : Prop := Claim7.holds Tryd.pinned (.plain (OpenSpec.ofChange valPartsSpec)) valPartsCard

/-- THE TIED CARD OF 'cabinetrylaw01.ValDays'. -/
def valDaysCard : Claim7 := { stood := { row := valDaysRow, standIns := [], harness := (true, "b0e2575192d11b15c47babb91c45279908020743339f46d5cad88154cf757604"), looks := false }, kinds := [], alts := [], laidByText := true, laidKinds := [.data, .pinned], laidTests := true, laidLooks := .later }
def ValDaysCardSaid : Prop := Claim7.holds Tryd.pinned (.plain (OpenSpec.ofChange valDaysSpec)) valDaysCard

/-- THE TIED CARD OF 'cabinetrylaw01.ValValidates'. -/
def valValidatesCard : Claim7 := { stood := { row := valValidatesRow, standIns := [], harness := (true, "b0e2575192d11b15c47babb91c45279908020743339f46d5cad88154cf757604"), looks := false }, kinds := [], alts := [], laidByText := true, laidKinds := [.data, .pinned], laidTests := true, laidLooks := .later }
def ValValidatesCardSaid : Prop := Claim7.holds Tryd.pinned (.plain (OpenSpec.ofChange valValidatesSpec)) valValidatesCard

/-- THE TIED CARD OF 'cabinetrylaw01.ValSwaps'. -/
def valSwapsCard : Claim7 := { stood := { row := valSwapsRow, standIns := [], harness := (true, "b0e2575192d11b15c47babb91c45279908020743339f46d5cad88154cf757604"), looks := false }, kinds := [], alts := [], laidByText := true, laidKinds := [.data, .pinned], laidTests := true, laidLooks := .later }
def ValSwapsCardSaid : Prop := Claim7.holds Tryd.pinned (.plain (OpenSpec.ofChange valSwapsSpec)) valSwapsCard

/-- THE TIED CARD OF 'cabinetrylaw01.ValNumbers'. -/
def valNumbersCard : Claim7 := { stood := { row := valNumbersRow, standIns := [], harness := (true, "b0e2575192d11b15c47babb91c45279908020743339f46d5cad88154cf757604"), looks := false }, kinds := [], alts := [], laidByText := true, laidKinds := [.data, .pinned], laidTests := true, laidLooks := .later }
def ValNumbersCardSaid : Prop := Claim7.holds Tryd.pinned (.plain (OpenSpec.ofChange valNumbersSpec)) valNumbersCard

/-- THE TIED CARD OF 'cabinetrylaw01.ValTrims'. -/
def valTrimsCard : Claim7 := { stood := { row := valTrimsRow, standIns := [], harness := (true, "b0e2575192d11b15c47babb91c45279908020743339f46d5cad88154cf757604"), looks := false }, kinds := [], alts := [], laidByText := true, laidKinds := [.data, .pinned], laidTests := true, laidLooks := .later }
def ValTrimsCardSaid : Prop := Claim7.holds Tryd.pinned (.plain (OpenSpec.ofChange valTrimsSpec)) valTrimsCard

/-- THE TIED CARD OF 'cabinetrylaw01.ValStamps'. -/
def valStampsCard : Claim7 := { stood := { row := valStampsRow, standIns := [], harness := (true, "b0e2575192d11b15c47babb91c45279908020743339f46d5cad88154cf757604"), looks := false }, kinds := [], alts := [], laidByText := true, laidKinds := [.data, .pinned], laidTests := true, laidLooks := .later }
def ValStampsCardSaid : Prop := Claim7.holds Tryd.pinned (.plain (OpenSpec.ofChange valStampsSpec)) valStampsCard

/-- THE SECOND FORM's CARD OF 'cabinetrylaw01.ValDoes'. -/
def valDoesUptoCard : Claim7 := { stood := { row := valDoesUptoRow, standIns := [], harness := (true, "b0e2575192d11b15c47babb91c45279908020743339f46d5cad88154cf757604"), looks := false }, kinds := [], alts := [], laidByText := true, laidKinds := [.data, .pinned], laidTests := true, laidLooks := .later }
def ValDoesUptoCardSaid : Prop := Claim7.holds Tryd.pinned (.plain (OpenSpec.upto valDoesSpec)) valDoesUptoCard

/-- THE SECOND FORM's CARD OF 'cabinetrylaw01.ValDivides'. -/
def valDividesUptoCard : Claim7 := { stood := { row := valDividesUptoRow, standIns := [], harness := (true, "b0e2575192d11b15c47babb91c45279908020743339f46d5cad88154cf757604"), looks := false }, kinds := [], alts := [], laidByText := true, laidKinds := [.data, .pinned], laidTests := true, laidLooks := .later }
def ValDividesUptoCardSaid : Prop := Claim7.holds Tryd.pinned (.plain (OpenSpec.upto valDividesSpec)) valDividesUptoCard

/-- THE SECOND FORM's CARD OF 'cabinetrylaw01.ValDates'. -/
def valDatesUptoCard : Claim7 := { stood := { row := valDatesUptoRow, standIns := [], harness := (true, "b0e2575192d11b15c47babb91c45279908020743339f46d5cad88154cf757604"), looks := false }, kinds := [], alts := [], laidByText := true, laidKinds := [.data, .pinned], laidTests := true, laidLooks := .later }
def ValDatesUptoCardSaid : Prop := Claim7.holds Tryd.pinned (.plain (OpenSpec.upto valDatesSpec)) valDatesUptoCard

/-- THE SECOND FORM's CARD OF 'cabinetrylaw01.ValEquals'. -/
def valEqualsUptoCard : Claim7 := { stood := { row := valEqualsUptoRow, standIns := [], harness := (true, "b0e2575192d11b15c47babb91c45279908020743339f46d5cad88154cf757604"), looks := false }, kinds := [], alts := [], laidByText := true, laidKinds := [.data, .pinned], laidTests := true, laidLooks := .later }
def ValEqualsUptoCardSaid : Prop := Claim7.holds Tryd.pinned (.plain (OpenSpec.upto valEqualsSpec)) valEqualsUptoCard

/-- THE SECOND FORM's CARD OF 'cabinetrylaw01.ValCompares'. -/
def valComparesUptoCard : Claim7 := { stood := { row := valComparesUptoRow, standIns := [], harness := (true, "b0e2575192d11b15c47babb91c45279908020743339f46d5cad88154cf757604"), looks := false }, kinds := [], alts := [], laidByText := true, laidKinds := [.data, .pinned], laidTests := true, laidLooks := .later }
def ValComparesUptoCardSaid : Prop := Claim7.holds Tryd.pinned (.plain (OpenSpec.upto valComparesSpec)) valComparesUptoCard

/-- THE SECOND FORM's CARD OF 'cabinetrylaw01.ValOrders'. -/
def valOrdersUptoCard : Claim7 := { stood := { row := valOrdersUptoRow, standIns := [], harness := (true, "b0e2575192d11b15c47babb91c45279908020743339f46d5cad88154cf757604"), looks := false }, kinds := [], alts := [], laidByText := true, laidKinds := [.data, .pinned], laidTests := true, laidLooks := .later }
def ValOrdersUptoCardSaid : Prop := Claim7.holds Tryd.pinned (.plain (OpenSpec.upto valOrdersSpec)) valOrdersUptoCard

/-- THE SECOND FORM's CARD OF 'cabinetrylaw01.ValParts'. -/
def valPartsUptoCard : Claim7 := { stood := { row := valPartsUptoRow, standIns := [], harness := (true, "b0e2575192d11b15c47babb91c45279908020743339f46d5cad88154cf757604"), looks := false }, kinds := [], alts := [], laidByText := true, laidKinds := [.data, .pinned], laidTests := true, laidLooks := .later }
def ValPartsUptoCardSaid : Prop := Claim7.holds Tryd.pinned (.plain (OpenSpec.upto valPartsSpec)) valPartsUptoCard

/-- THE SECOND FORM's CARD OF 'cabinetrylaw01.ValDays'. -/
def valDaysUptoCard : Claim7 := { stood := { row := valDaysUptoRow, standIns := [], harness := (true, "b0e2575192d11b15c47babb91c45279908020743339f46d5cad88154cf757604"), looks := false }, kinds := [], alts := [], laidByText := true, laidKinds := [.data, .pinned], laidTests := true, laidLooks := .later }
def ValDaysUptoCardSaid : Prop := Claim7.holds Tryd.pinned (.plain (OpenSpec.upto valDaysSpec)) valDaysUptoCard

/-- THE SECOND FORM's CARD OF 'cabinetrylaw01.ValValidates'. -/
def valValidatesUptoCard : Claim7 := { stood := { row := valValidatesUptoRow, standIns := [], harness := (true, "b0e2575192d11b15c47babb91c45279908020743339f46d5cad88154cf757604"), looks := false }, kinds := [], alts := [], laidByText := true, laidKinds := [.data, .pinned], laidTests := true, laidLooks := .later }
def ValValidatesUptoCardSaid : Prop := Claim7.holds Tryd.pinned (.plain (OpenSpec.upto valValidatesSpec)) valValidatesUptoCard

/-- THE SECOND FORM's CARD OF 'cabinetrylaw01.ValSwaps'. -/
def valSwapsUptoCard : Claim7 := { stood := { row := valSwapsUptoRow, standIns := [], harness := (true, "b0e2575192d11b15c47babb91c45279908020743339f46d5cad88154cf757604"), looks := false }, kinds := [], alts := [], laidByText := true, laidKinds := [.data, .pinned], laidTests := true, laidLooks := .later }
def ValSwapsUptoCardSaid : Prop := Claim7.holds Tryd.pinned (.plain (OpenSpec.upto valSwapsSpec)) valSwapsUptoCard

/-- THE SECOND FORM's CARD OF 'cabinetrylaw01.ValNumbers'. -/
def valNumbersUptoCard : Claim7 := { stood := { row := valNumbersUptoRow, standIns := [], harness := (true, "b0e2575192d11b15c47babb91c45279908020743339f46d5cad88154cf757604"), looks := false }, kinds := [], alts := [], laidByText := true, laidKinds := [.data, .pinned], laidTests := true, laidLooks := .later }
def ValNumbersUptoCardSaid : Prop := Claim7.holds Tryd.pinned (.plain (OpenSpec.upto valNumbersSpec)) valNumbersUptoCard

/-- THE SECOND FORM's CARD OF 'cabinetrylaw01.ValTrims'. -/
def valTrimsUptoCard : Claim7 := { stood := { row := valTrimsUptoRow, standIns := [], harness := (true, "b0e2575192d11b15c47babb91c45279908020743339f46d5cad88154cf757604"), looks := false }, kinds := [], alts := [], laidByText := true, laidKinds := [.data, .pinned], laidTests := true, laidLooks := .later }
def ValTrimsUptoCardSaid : Prop := Claim7.holds Tryd.pinned (.plain (OpenSpec.upto valTrimsSpec)) valTrimsUptoCard

/-- THE SECOND FORM's CARD OF 'cabinetrylaw01.ValStamps'. -/
def valStampsUptoCard : Claim7 := { stood := { row := valStampsUptoRow, standIns := [], harness := (true, "b0e2575192d11b15c47babb91c45279908020743339f46d5cad88154cf757604"), looks := false }, kinds := [], alts := [], laidByText := true, laidKinds := [.data, .pinned], laidTests := true, laidLooks := .later }
def ValStampsUptoCardSaid : Prop := Claim7.holds Tryd.pinned (.plain (OpenSpec.upto valStampsSpec)) valStampsUptoCard
end Rows
end Go.Proofs.YtkjcfnmbnddhjaaDoor
