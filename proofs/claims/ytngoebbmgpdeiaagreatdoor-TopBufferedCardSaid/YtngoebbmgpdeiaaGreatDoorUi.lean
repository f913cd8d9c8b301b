/-
  A world in which the listed variables read as listed: for the row's witness.
-/
import Derived.Test.YtngoebbmgpdeiaaGreatDoorUa
import Derived.Lay
import Derived.LaidHandle
namespace Go.Proofs.YtngoebbmgpdeiaaGreatDoor
open Go
def plainL : List (String × DataW Unit) := [("unicode/utf8.first", Rows.laid_unicode_utf8_first), ("unicode/utf8.acceptRanges", Rows.laid_unicode_utf8_acceptRanges)]
/-- The handle of a type, laid. -/
noncomputable def layH (w0 : World) : World :=
  { w0 with heap := w0.heap.modify 3 fun
      | .cells _ t frozen => .cells #[.iface 433 (.agg #[typeHandle Tryz.prog 218])] t frozen
      | o => o }
theorem layH_os (w0 : World) : (layH w0).os = w0.os := rfl
/-- The plain variables laid, and the handle of a type. -/
noncomputable def witW (os : Os) : World := layH (World.laidAll Tryz.prog os plainL)
theorem witW_os (os : Os) : (witW os).os = os := by
  unfold witW
  rw [layH_os]
  exact World.laidAll_os Tryz.prog os plainL
set_option maxRecDepth 1000000 in
theorem witW_met (os : Os) (args : Array Value) : laidMetH Tryz.prog Rows.topBufferedRow.laid ((witW os).forCall (fun _ _ => 0) ⟨#[], args, []⟩).memory :=
  laidMetH_of_parts (laidMet_of_run' 8 (by kernel_rfl) (by kernel_rfl)) (by kernel_rfl)
end Go.Proofs.YtngoebbmgpdeiaaGreatDoor
