/-
  The row's closed facts, third part.
-/
import Derived.Test.YtngoebbmgpdeiaaGreatDoorVa
namespace Go.Proofs.YtngoebbmgpdeiaaGreatDoor
open Go
theorem row_k12 : (Rows.topBufferedRow.recurses == Tryz.pinned.checked.prog.recurses 3) = true := by
  unfold Program.recurses Program.unfollowed
  rw [clo]
  kernel_rfl
theorem row_k13 : (Rows.topBufferedRow.named == Tryz.pinned.checked.prog.varsNamed 3) = true := by
  unfold Program.varsNamed
  rw [clo]
  kernel_rfl
end Go.Proofs.YtngoebbmgpdeiaaGreatDoor
