/-
  The row's tie: the door lays the listed variables, each once.
-/
import Derived.Test.YtngoebbmgpdeiaaGreatDoorUa
namespace Go.Proofs.YtngoebbmgpdeiaaGreatDoor
open Go
theorem tie_n : varsNamedLaterB Tryz.prog (varsId Tryz.prog) tieL = true := by kernel_rfl
end Go.Proofs.YtngoebbmgpdeiaaGreatDoor
