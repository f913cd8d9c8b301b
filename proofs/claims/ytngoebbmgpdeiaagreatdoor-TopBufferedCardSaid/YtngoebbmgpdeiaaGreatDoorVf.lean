/-
  The row's closed facts, fourth part.
-/
import Derived.Test.YtngoebbmgpdeiaaGreatDoorRows
import Derived.JoinedOf
import Derived.SevenTiedAt
import Derived.WalkKit
import Derived.Below
namespace Go.Proofs.YtngoebbmgpdeiaaGreatDoor
open Go
theorem row_k14 : (Rows.topBufferedRow.maps == (Tryz.f3.params.toList ++ Rows.topBufferedSpec.plain.varTypes Tryz.pinned.checked.prog).any (Tryz.pinned.checked.prog.mapsRec ·)) = true := by kernel_rfl
theorem row_k15 : (Rows.topBufferedRow.ifaces == (Tryz.f3.params.toList ++ Rows.topBufferedSpec.plain.varTypes Tryz.pinned.checked.prog).any (Tryz.pinned.checked.prog.ifacesRec ·)) = true := by kernel_rfl
theorem row_k16 : (Rows.topBufferedRow.mapsOut == Tryz.pinned.checked.prog.mapsAmong Tryz.f3.resultTypes.toList) = true := by kernel_rfl
theorem row_k17 : (Rows.topBufferedRow.loops == (Tryz.f3.params.toList ++ Rows.topBufferedSpec.plain.varTypes Tryz.pinned.checked.prog).any (Tryz.pinned.checked.prog.loopsFrom ·)) = true := by kernel_rfl
theorem row_k17b : (Rows.topBufferedRow.wideKeys == (Tryz.f3.params.toList ++ Rows.topBufferedSpec.plain.varTypes Tryz.pinned.checked.prog ++ Tryz.f3.resultTypes.toList).any (Tryz.pinned.checked.prog.wideKeysFrom ·)) = true := by kernel_rfl
theorem row_k18 : Rows.topBufferedSpec.vars.all (Tryz.pinned.checked.prog.varReadable ·) = true := by kernel_rfl
theorem row_k19 : Tryz.f3.resultTypes.all (fun t => Tryz.pinned.checked.prog.readableRec t && decide (t < Tryz.pinned.checked.prog.types.size)) = true := by kernel_rfl
theorem row_k20 : (Rows.topBufferedRow.ifacesOut == Tryz.f3.resultTypes.toList.any (Tryz.pinned.checked.prog.ifacesRec ·)) = true := by kernel_rfl
theorem row_k21 : (Rows.topBufferedRow.loopsOut == Tryz.f3.resultTypes.toList.any (Tryz.pinned.checked.prog.loopsFrom ·)) = true := by kernel_rfl
end Go.Proofs.YtngoebbmgpdeiaaGreatDoor
