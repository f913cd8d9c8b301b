/-
  The row's closed facts, fifth part.
-/
import Derived.Test.YtngoebbmgpdeiaaGreatDoorRows
import Derived.JoinedOf
import Derived.SevenTiedAt
import Derived.WalkKit
import Derived.Below
namespace Go.Proofs.YtngoebbmgpdeiaaGreatDoor
open Go
theorem row_k22 : (Rows.topBufferedRow.plainKeys == Tryz.pinned.checked.prog.plainKeys) = true := by kernel_rfl
theorem row_k23 : Rows.topBufferedRow.shortTexts.isNone = true := by kernel_rfl
theorem row_k23b : Tryz.pinned.checked.prog.stopsHeard = true := by kernel_rfl
theorem row_k24 : Tryz.pinned.checked.prog.mayEnter = true := by kernel_rfl
theorem row_k24b : (Rows.topBufferedRow.lifted == Tryz.pinned.checked.prog.liftsFinal) = true := by kernel_rfl
theorem row_k24c : (Tryz.pinned.checked.prog.make == some Rows.topBufferedRow.make) = true := by kernel_rfl
theorem row_k26 : (Rows.topBufferedRow.pinned == Rows.topBufferedRow.pinnedBy) = true := by kernel_rfl
theorem row_k27 : (Rows.topBufferedRow.veiled == (Tryz.f3.params.toList ++ Rows.topBufferedSpec.plain.varTypes Tryz.pinned.checked.prog ++ Tryz.f3.resultTypes.toList).any (Tryz.pinned.checked.prog.veiledRec ·)) = true := by kernel_rfl
theorem row_k28 : Rows.topBufferedRow.veiledFits Tryz.pinned.checked.prog Tryz.f3.params.toList (Tryz.f3.params.toList ++ Rows.topBufferedSpec.plain.varTypes Tryz.pinned.checked.prog ++ Tryz.f3.resultTypes.toList) = true := by kernel_rfl
end Go.Proofs.YtngoebbmgpdeiaaGreatDoor
