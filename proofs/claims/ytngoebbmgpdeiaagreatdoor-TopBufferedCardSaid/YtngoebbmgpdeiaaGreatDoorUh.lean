/-
  The row's tie, put together.
-/
import Derived.Test.YtngoebbmgpdeiaaGreatDoorUb
import Derived.Test.YtngoebbmgpdeiaaGreatDoorUc
import Derived.Test.YtngoebbmgpdeiaaGreatDoorUd
import Derived.Test.YtngoebbmgpdeiaaGreatDoorUe
import Derived.Test.YtngoebbmgpdeiaaGreatDoorUf
import Derived.Test.YtngoebbmgpdeiaaGreatDoorUg
import Derived.SevenTiedAt
namespace Go.Proofs.YtngoebbmgpdeiaaGreatDoor
open Go
theorem tie_all : Tryz.prog.laidByTextLater tieL [.data, .handle] true :=
  Program.laidByTextLater_by_run_h 400 8 tie_w tie_w' tie_root tie_k tie_g tie_n tie_d tie_1 tie_2 tie_3
theorem row_tied : Rows.topBufferedRow.laidByTextAt .later Tryz.pinned [.pinned, .data, .handle] true :=
  OpenClaim.laidByTextAt_pinned rfl rfl tie_all rfl rfl rfl rfl (fun y hy _e => by
    simp only [Rows.topBufferedRow, List.zip_cons_cons, List.zip_nil_right, List.mem_cons, List.mem_nil_iff, or_false] at hy
    rcases hy with rfl | rfl | rfl
    · exact ⟨tie_pin, by kernel_rfl⟩
    · cases _e
    · cases _e) tie_fits
end Go.Proofs.YtngoebbmgpdeiaaGreatDoor
