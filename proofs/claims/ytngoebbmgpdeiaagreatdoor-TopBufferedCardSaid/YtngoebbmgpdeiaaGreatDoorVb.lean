/-
  The row's function, by its name.
-/
import Derived.Test.YtngoebbmgpdeiaaGreatDoorRows
import Derived.JoinedOf
import Derived.SevenTiedAt
import Derived.WalkKit
import Derived.Below
namespace Go.Proofs.YtngoebbmgpdeiaaGreatDoor
open Go
theorem row_func : Tryz.pinned.checked.prog.funcNamed Rows.topBufferedRow.func = some 3 := by kernel_rfl
theorem row_inst : Tryz.f3.isInstance Tryz.pinned.checked.prog Rows.topBufferedRow.origin Rows.topBufferedRow.targs := of_decide_eq_true (by kernel_rfl)
theorem row_wrap : Tryz.f3.isWrapper Tryz.pinned.checked.prog Rows.topBufferedRow.wrapper Rows.topBufferedRow.mainSum := by unfold Func.isWrapper; first | (rw [if_pos (by decide +kernel)]; kernel_rfl) | (rw [if_neg (by decide +kernel)]; exact ⟨rfl, rfl⟩)
theorem row_main : Tryz.pinned.checked.prog.mainIs = some (true, "27941fe8f2cc30022ca97dc0e9fd24a9944568484d8863c87ed200eb46f44283".toList) := by kernel_rfl
theorem row_stand : ([30, 3].all fun u => !Tryz.prog.wantsStandIn u) = true := by kernel_rfl
theorem row_looks : true = Tryz.pinned.checked.prog.looks [] := by kernel_rfl
end Go.Proofs.YtngoebbmgpdeiaaGreatDoor
