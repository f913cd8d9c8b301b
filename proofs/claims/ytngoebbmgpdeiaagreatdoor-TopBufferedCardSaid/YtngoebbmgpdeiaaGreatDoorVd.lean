/-
  The row's closed facts, second part.
-/
import Derived.Test.YtngoebbmgpdeiaaGreatDoorVa
namespace Go.Proofs.YtngoebbmgpdeiaaGreatDoor
open Go
theorem row_k10 : (Rows.topBufferedRow.inPlace == Tryz.pinned.checked.prog.inPlace 3) = true := by
  unfold Program.inPlace
  rw [clo]
  kernel_rfl
theorem row_k11 : (Rows.topBufferedRow.unfollowed == Tryz.pinned.checked.prog.unfollowed 3) = true := by
  unfold Program.unfollowed
  rw [clo]
  kernel_rfl
end Go.Proofs.YtngoebbmgpdeiaaGreatDoor
