/-
  The row's tie: the places of what is listed are apart.
-/
import Derived.Test.YtngoebbmgpdeiaaGreatDoorUa
namespace Go.Proofs.YtngoebbmgpdeiaaGreatDoor
open Go
theorem tie_2 (os : Os) (tape : Tape) : (DataW.laidRun Tryz.prog (varsWorld Tryz.prog 400 (varsId Tryz.prog) os tape).memory 8 ((tieL.filter fun x => x.2.handleName?.isNone).map (·.1))).map (fun x => decide x.2.Nodup && laidRowsB Tryz.prog (varsWorld Tryz.prog 400 (varsId Tryz.prog) os tape).memory x.2) = some true := by kernel_rfl
end Go.Proofs.YtngoebbmgpdeiaaGreatDoor
