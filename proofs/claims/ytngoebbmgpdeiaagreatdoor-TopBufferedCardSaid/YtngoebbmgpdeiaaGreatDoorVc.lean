/-
  The row's closed facts, first part.
-/
import Derived.Test.YtngoebbmgpdeiaaGreatDoorRows
import Derived.JoinedOf
import Derived.SevenTiedAt
import Derived.WalkKit
import Derived.Below
namespace Go.Proofs.YtngoebbmgpdeiaaGreatDoor
open Go
theorem row_k1 : Rows.topBufferedRow.wf (OpenSpec.ofChange Rows.topBufferedSpec) = true := by kernel_rfl
theorem row_k2 : laidOutB Tryz.pinned.checked.prog = true := by kernel_rfl
theorem row_k3 : mapsRowed Tryz.pinned.checked.prog = true := by kernel_rfl
theorem row_k4 : Tryz.f3.params.all (Tryz.pinned.checked.prog.readableRec ·) = true := by kernel_rfl
theorem row_k5 : namedTie Tryz.pinned.checked.prog Rows.topBufferedRow.named Rows.topBufferedSpec.vars = true := by kernel_rfl
theorem row_k6 : (Rows.topBufferedRow.stops == []) = true := by kernel_rfl
theorem row_k7 : (Tryz.pinned.checked.prog.stops == []) = true := by kernel_rfl
theorem row_k8 : (Rows.topBufferedRow.knobs == []) = true := by kernel_rfl
theorem row_k9 : (Tryz.pinned.checked.prog.stopKnobs == []) = true := by kernel_rfl
end Go.Proofs.YtngoebbmgpdeiaaGreatDoor
