/-
  DERIVED. GIVEN WITH THE SEED: THE CARDS: each row of YtlfanhlkoepodaaDoorRows.lean that lists a variable, with what it lists TIED to the program's text (the seventh form; the later family's looks); each row that meets fmt, with fmt's text TOLD by the authors' own Lean function (tested against real Go, not proved from fmt's source: count such statements apart). THE CARD IS WHAT COUNTS. Prove the row's statement (the work); the ties are given (YtlfanhlkoepodaaDoorTie.lean); close each card by the builder's one call (the guide's Derived/Test/ToyasCard.lean, 'card_holds'). Laid BY PROGRAM, IN A SANDBOX (cutbox-door.mjs). By AI agents, Wed Nov 11 2026. No macro, syntax, notation, axiom, sorry.
-/
import Derived.Test.YtlfanhlkoepodaaDoorRows
import GoSem.ClaimSeven
namespace Go.Proofs.YtlfanhlkoepodaaDoor
namespace Rows

/-- THE TIED CARD OF 'cabinetrylaw09.KeyEncodes'. -/
def keyEncodesCard : Claim7 := { stood := { row := keyEncodesRow, standIns := [], harness := (true, "4a45da202b5c975420807910f660f7375a72f5c08c66fd929621f1ac6e40e85a"), looks := false }, kinds := [], alts := [], laidByText := true, laidKinds := [.data, .pinned], laidTests := true, laidLooks := .later }
def KeyEncodesCardSaid : Prop := Claim7.holds Tryd.pinned (.plain (OpenSpec.ofChange keyEncodesSpec)) keyEncodesCard

/-- THE TIED CARD OF 'cabinetrylaw09.KeyOrders'. -/
def keyOrdersCard : Claim7 := { stood := { row := keyOrdersRow, standIns := [], harness := (true, "4a45da202b5c975420807910f660f7375a72f5c08c66fd929621f1ac6e40e85a"), looks := false }, kinds := [], alts := [], laidByText := true, laidKinds := [.data, .pinned], laidTests := true, laidLooks := .later }
def KeyOrdersCardSaid : Prop := Claim7.holds Tryd.pinned (.plain (OpenSpec.ofChange keyOrdersSpec)) keyOrdersCard

/-- THE TIED CARD OF 'cabinetrylaw09.KeyShorts'. -/
def keyShortsCard : Claim7 := { stood := { row := keyShortsRow, standIns := [], harness := (true, "4a45da202b5c975420807910f660f7375a72f5c08c66fd929621f1ac6e40e85a"), looks := false }, kinds := [], alts := [], laidByText := true, laidKinds := [.data, .pinned], laidTests := true, laidLooks := .later }
def KeyShortsCardSaid : Prop := Claim7.holds Tryd.pinned (.plain (OpenSpec.ofChange keyShortsSpec)) keyShortsCard

/-- THE TIED CARD OF 'cabinetrylaw09.KeyPrefixes'. -/
def keyPrefixesCard : Claim7 := { stood := { row := keyPrefixesRow, standIns := [], harness := (true, "4a45da202b5c975420807910f660f7375a72f5c08c66fd929621f1ac6e40e85a"), looks := false }, kinds := [], alts := [], laidByText := true, laidKinds := [.data, .pinned], laidTests := true, laidLooks := .later }
def KeyPrefixesCardSaid : Prop := Claim7.holds Tryd.pinned (.plain (OpenSpec.ofChange keyPrefixesSpec)) keyPrefixesCard

/-- THE TIED CARD OF 'cabinetrylaw09.KeyBegins'. -/
def keyBeginsCard : Claim7 := { stood := { row := keyBeginsRow, standIns := [], harness := (true, "4a45da202b5c975420807910f660f7375a72f5c08c66fd929621f1ac6e40e85a"), looks := false }, kinds := [], alts := [], laidByText := true, laidKinds := [.data, .pinned], laidTests := true, laidLooks := .later }
def KeyBeginsCardSaid : Prop := Claim7.holds Tryd.pinned (.plain (OpenSpec.ofChange keyBeginsSpec)) keyBeginsCard

/-- THE TIED CARD OF 'cabinetrylaw09.KeyPacks'. -/
def keyPacksCard : Claim7 := { stood := { row := keyPacksRow, standIns := [], harness := (true, "4a45da202b5c975420807910f660f7375a72f5c08c66fd929621f1ac6e40e85a"), looks := false }, kinds := [], alts := [], laidByText := true, laidKinds := [.data, .pinned], laidTests := true, laidLooks := .later }
def KeyPacksCardSaid : Prop := Claim7.holds Tryd.pinned (.plain (OpenSpec.ofChange keyPacksSpec)) keyPacksCard

/-- THE TIED CARD OF 'cabinetrylaw09.KeyDecodes'. -/
def keyDecodesCard : Claim7 := { stood := { row := keyDecodesRow, standIns := [], harness := (true, "4a45da202b5c975420807910f660f7375a72f5c08c66fd929621f1ac6e40e85a"), looks := false }, kinds := [], alts := [], laidByText := true, laidKinds := [.data, .pinned], laidTests := true, laidLooks := .later }
def KeyDecodesCardSaid : Prop := Claim7.holds Tryd.pinned (.plain (OpenSpec.ofChange keyDecodesSpec)) keyDecodesCard

/-- THE TIED CARD OF 'cabinetrylaw09.KeyBack'. -/
def keyBackCard : Claim7 := { stood := { row := keyBackRow, standIns := [], harness := (true, "4a45da202b5c975420807910f660f7375a72f5c08c66fd929621f1ac6e40e85a"), looks := false }, kinds := [], alts := [], laidByText := true, laidKinds := [.data, .pinned], laidTests := true, laidLooks := .later }
def KeyBackCardSaid : Prop := Claim7.holds Tryd.pinned (.plain (OpenSpec.ofChange keyBackSpec)) keyBackCard

/-- THE TIED CARD OF 'cabinetrylaw09.KeySplits'. -/
def keySplitsCard : Claim7 := { stood := { row := keySplitsRow, standIns := [], harness := (true, "4a45da202b5c975420807910f660f7375a72f5c08c66fd929621f1ac6e40e85a"), looks := false }, kinds := [], alts := [], laidByText := true, laidKinds := [.data, .pinned], laidTests := true, laidLooks := .later }
def KeySplitsCardSaid : Prop := Claim7.holds Tryd.pinned (.plain (OpenSpec.ofChange keySplitsSpec)) keySplitsCard

/-- THE TIED CARD OF 'cabinetrylaw09.KeyRows'. -/
def keyRowsCard : Claim7 := { stood := { row := keyRowsRow, standIns := [], harness := (true, "4a45da202b5c975420807910f660f7375a72f5c08c66fd929621f1ac6e40e85a"), looks := false }, kinds := [], alts := [], laidByText := true, laidKinds := [.data, .pinned], laidTests := true, laidLooks := .later }
def KeyRowsCardSaid : Prop := Claim7.holds Tryd.pinned (.plain (OpenSpec.ofChange keyRowsSpec)) keyRowsCard

/-- THE TIED CARD OF 'cabinetrylaw09.KeyRanges'. -/
def keyRangesCard : Claim7 := { stood := { row := keyRangesRow, standIns := [], harness := (true, "4a45da202b5c975420807910f660f7375a72f5c08c66fd929621f1ac6e40e85a"), looks := false }, kinds := [], alts := [], laidByText := true, laidKinds := [.data, .pinned], laidTests := true, laidLooks := .later }
def KeyRangesCardSaid : Prop := Claim7.holds Tryd.pinned (.plain (OpenSpec.ofChange keyRangesSpec)) keyRangesCard

/-- THE TIED CARD OF 'cabinetrylaw09.KeyAsks'. -/
def keyAsksCard : Claim7 := { stood := { row := keyAsksRow, standIns := [], harness := (true, "4a45da202b5c975420807910f660f7375a72f5c08c66fd929621f1ac6e40e85a"), looks := false }, kinds := [], alts := [], laidByText := true, laidKinds := [.data, .pinned], laidTests := true, laidLooks := .later }
def KeyAsksCardSaid : Prop := Claim7.holds Tryd.pinned (.plain (OpenSpec.ofChange keyAsksSpec)) keyAsksCard

/-- THE SECOND FORM's CARD OF 'cabinetrylaw09.KeyEncodes'. -/
def keyEncodesUptoCard : Claim7 := { stood := { row := keyEncodesUptoRow, standIns := [], harness := (true, "4a45da202b5c975420807910f660f7375a72f5c08c66fd929621f1ac6e40e85a"), looks := false }, kinds := [], alts := [], laidByText := true, laidKinds := [.data, .pinned], laidTests := true, laidLooks := .later }
def KeyEncodesUptoCardSaid : Prop := Claim7.holds Tryd.pinned (.plain (OpenSpec.upto keyEncodesSpec)) keyEncodesUptoCard

/-- THE SECOND FORM's CARD OF 'cabinetrylaw09.KeyOrders'. -/
def keyOrdersUptoCard : Claim7 := { stood := { row := keyOrdersUptoRow, standIns := [], harness := (true, "4a45da202b5c975420807910f660f7375a72f5c08c66fd929621f1ac6e40e85a"), looks := false }, kinds := [], alts := [], laidByText := true, laidKinds := [.data, .pinned], laidTests := true, laidLooks := .later }
def KeyOrdersUptoCardSaid : Prop := Claim7.holds Tryd.pinned (.plain (OpenSpec.upto keyOrdersSpec)) keyOrdersUptoCard

/-- THE SECOND FORM's CARD OF 'cabinetrylaw09.KeyShorts'. -/
def keyShortsUptoCard : Claim7 := { stood := { row := keyShortsUptoRow, standIns := [], harness := (true, "4a45da202b5c975420807910f660f7375a72f5c08c66fd929621f1ac6e40e85a"), looks := false }, kinds := [], alts := [], laidByText := true, laidKinds := [.data, .pinned], laidTests := true, laidLooks := .later }
def KeyShortsUptoCardSaid : Prop := Claim7.holds Tryd.pinned (.plain (OpenSpec.upto keyShortsSpec)) keyShortsUptoCard

/-- THE SECOND FORM's CARD OF 'cabinetrylaw09.KeyPrefixes'. -/
def keyPrefixesUptoCard : Claim7 := { stood := { row := keyPrefixesUptoRow, standIns := [], harness := (true, "4a45da202b5c975420807910f660f7375a72f5c08c66fd929621f1ac6e40e85a"), looks := false }, kinds := [], alts := [], laidByText := true, laidKinds := [.data, .pinned], laidTests := true, laidLooks := .later }
def KeyPrefixesUptoCardSaid : Prop := Claim7.holds Tryd.pinned (.plain (OpenSpec.upto keyPrefixesSpec)) keyPrefixesUptoCard

/-- THE SECOND FORM's CARD OF 'cabinetrylaw09.KeyBegins'. -/
def keyBeginsUptoCard : Claim7 := { stood := { row := keyBeginsUptoRow, standIns := [], harness := (true, "4a45da202b5c975420807910f660f7375a72f5c08c66fd929621f1ac6e40e85a"), looks := false }, kinds := [], alts := [], laidByText := true, laidKinds := [.data, .pinned], laidTests := true, laidLooks := .later }
def KeyBeginsUptoCardSaid : Prop := Claim7.holds Tryd.pinned (.plain (OpenSpec.upto keyBeginsSpec)) keyBeginsUptoCard

/-- THE SECOND FORM's CARD OF 'cabinetrylaw09.KeyPacks'. -/
def keyPacksUptoCard : Claim7 := { stood := { row := keyPacksUptoRow, standIns := [], harness := (true, "4a45da202b5c975420807910f660f7375a72f5c08c66fd929621f1ac6e40e85a"), looks := false }, kinds := [], alts := [], laidByText := true, laidKinds := [.data, .pinned], laidTests := true, laidLooks := .later }
def KeyPacksUptoCardSaid : Prop := Claim7.holds Tryd.pinned (.plain (OpenSpec.upto keyPacksSpec)) keyPacksUptoCard

/-- THE SECOND FORM's CARD OF 'cabinetrylaw09.KeyDecodes'. -/
def keyDecodesUptoCard : Claim7 := { stood := { row := keyDecodesUptoRow, standIns := [], harness := (true, "4a45da202b5c975420807910f660f7375a72f5c08c66fd929621f1ac6e40e85a"), looks := false }, kinds := [], alts := [], laidByText := true, laidKinds := [.data, .pinned], laidTests := true, laidLooks := .later }
def KeyDecodesUptoCardSaid : Prop := Claim7.holds Tryd.pinned (.plain (OpenSpec.upto keyDecodesSpec)) keyDecodesUptoCard

/-- THE SECOND FORM's CARD OF 'cabinetrylaw09.KeyBack'. -/
def keyBackUptoCard : Claim7 := { stood := { row := keyBackUptoRow, standIns := [], harness := (true, "4a45da202b5c975420807910f660f7375a72f5c08c66fd929621f1ac6e40e85a"), looks := false }, kinds := [], alts := [], laidByText := true, laidKinds := [.data, .pinned], laidTests := true, laidLooks := .later }
def KeyBackUptoCardSaid : Prop := Claim7.holds Tryd.pinned (.plain (OpenSpec.upto keyBackSpec)) keyBackUptoCard

/-- THE SECOND FORM's CARD OF 'cabinetrylaw09.KeySplits'. -/
def keySplitsUptoCard : Claim7 := { stood := { row := keySplitsUptoRow, standIns := [], harness := (true, "4a45da202b5c975420807910f660f7375a72f5c08c66fd929621f1ac6e40e85a"), looks := false }, kinds := [], alts := [], laidByText := true, laidKinds := [.data, .pinned], laidTests := true, laidLooks := .later }
def KeySplitsUptoCardSaid : Prop := Claim7.holds Tryd.pinned (.plain (OpenSpec.upto keySplitsSpec)) keySplitsUptoCard

/-- THE SECOND FORM's CARD OF 'cabinetrylaw09.KeyRows'. -/
def keyRowsUptoCard : Claim7 := { stood := { row := keyRowsUptoRow, standIns := [], harness := (true, "4a45da202b5c975420807910f660f7375a72f5c08c66fd929621f1ac6e40e85a"), looks := false }, kinds := [], alts := [], laidByText := true, laidKinds := [.data, .pinned], laidTests := true, laidLooks := .later }
def KeyRowsUptoCardSaid : Prop := Claim7.holds Tryd.pinned (.plain (OpenSpec.upto keyRowsSpec)) keyRowsUptoCard

/-- THE SECOND FORM's CARD OF 'cabinetrylaw09.KeyRanges'. -/
def keyRangesUptoCard : Claim7 := { stood := { row := keyRangesUptoRow, standIns := [], harness := (true, "4a45da202b5c975420807910f660f7375a72f5c08c66fd929621f1ac6e40e85a"), looks := false }, kinds := [], alts := [], laidByText := true, laidKinds := [.data, .pinned], laidTests := true, laidLooks := .later }
def KeyRangesUptoCardSaid : Prop := Claim7.holds Tryd.pinned (.plain (OpenSpec.upto keyRangesSpec)) keyRangesUptoCard

/-- THE SECOND FORM's CARD OF 'cabinetrylaw09.KeyAsks'. -/
def keyAsksUptoCard : Claim7 := { stood := { row := keyAsksUptoRow, standIns := [], harness := (true, "4a45da202b5c975420807910f660f7375a72f5c08c66fd929621f1ac6e40e85a"), looks := false }, kinds := [], alts := [], laidByText := true, laidKinds := [.data, .pinned], laidTests := true, laidLooks := .later }
def KeyAsksUptoCardSaid : Prop := Claim7.holds Tryd.pinned (.plain (OpenSpec.upto keyAsksSpec)) keyAsksUptoCard
end Rows
end Go.Proofs.YtlfanhlkoepodaaDoor
