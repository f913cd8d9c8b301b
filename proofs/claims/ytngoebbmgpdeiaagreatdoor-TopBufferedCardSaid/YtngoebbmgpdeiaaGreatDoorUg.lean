/-
  The row's tie: what is listed is all that is wanted.
-/
import Derived.Test.YtngoebbmgpdeiaaGreatDoorUa
namespace Go.Proofs.YtngoebbmgpdeiaaGreatDoor
open Go
theorem tie_fits : Tryz.pinned.checked.prog.listedFits [("unicode/utf8.first", Rows.laid_unicode_utf8_first), ("unicode/utf8.acceptRanges", Rows.laid_unicode_utf8_acceptRanges), ("errors.errorType", Rows.laid_errors_errorType)] = true := by
  unfold Program.listedFits
  rw [tie_unsafe]
  kernel_rfl
end Go.Proofs.YtngoebbmgpdeiaaGreatDoor
