/-
  The row's tie: what the door's run leaves reads as listed.
-/
import Derived.Test.YtngoebbmgpdeiaaGreatDoorUa
namespace Go.Proofs.YtngoebbmgpdeiaaGreatDoor
open Go
theorem tie_1 (os : Os) (tape : Tape) : (DataW.laidRun Tryz.prog (varsWorld Tryz.prog 400 (varsId Tryz.prog) os tape).memory 8 ((tieL.filter fun x => x.2.handleName?.isNone).map (·.1))).map (·.1) = some (tieL.filter fun x => x.2.handleName?.isNone) := by kernel_rfl
end Go.Proofs.YtngoebbmgpdeiaaGreatDoor
