/-
  The row's closed facts, put together.
-/
import Derived.Test.YtngoebbmgpdeiaaGreatDoorVc
import Derived.Test.YtngoebbmgpdeiaaGreatDoorVd
import Derived.Test.YtngoebbmgpdeiaaGreatDoorVe
import Derived.Test.YtngoebbmgpdeiaaGreatDoorVf
import Derived.Test.YtngoebbmgpdeiaaGreatDoorVg
namespace Go.Proofs.YtngoebbmgpdeiaaGreatDoor
open Go
theorem row_facts : joinedFacts Tryz.pinned.checked.prog 3 Tryz.f3 Rows.topBufferedSpec Rows.topBufferedRow = true := by
  unfold joinedFacts
  rw [row_k1, row_k2, row_k3, row_k4, row_k5, row_k6, row_k7, row_k8, row_k9, row_k10, row_k11, row_k12, row_k13, row_k14, row_k15, row_k16, row_k17, row_k17b, row_k18, row_k19, row_k20, row_k21, row_k22, row_k23, row_k23b, row_k24, row_k24b, row_k24c, row_k26, row_k27, row_k28]
  rw [if_pos (show Rows.topBufferedRow.domain.isEmpty = true from rfl)]
  rfl
end Go.Proofs.YtngoebbmgpdeiaaGreatDoor
