/-
  The row's tie: the door's run ends.
-/
import Derived.Test.YtngoebbmgpdeiaaGreatDoorUa
namespace Go.Proofs.YtngoebbmgpdeiaaGreatDoor
open Go
theorem tie_d (os : Os) (tape : Tape) : varsDone Tryz.prog 400 (varsId Tryz.prog) os tape = true := by kernel_rfl
end Go.Proofs.YtngoebbmgpdeiaaGreatDoor
