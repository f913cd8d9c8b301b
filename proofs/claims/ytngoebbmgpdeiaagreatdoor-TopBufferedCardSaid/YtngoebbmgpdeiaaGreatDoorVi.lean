/-
  The card is well formed.
-/
import Derived.Test.YtngoebbmgpdeiaaGreatDoorRows
import Derived.JoinedOf
import Derived.SevenTiedAt
import Derived.WalkKit
import Derived.Below
namespace Go.Proofs.YtngoebbmgpdeiaaGreatDoor
open Go
theorem row_wf : Rows.topBufferedRow.wfByText (OpenSpec.ofChange Rows.topBufferedSpec) = true := by kernel_rfl
theorem row_own : ownKnob Tryz.prog.godebug = none := by kernel_rfl
theorem row_laidOut : laidOutB Tryz.prog = true := by kernel_rfl
end Go.Proofs.YtngoebbmgpdeiaaGreatDoor
