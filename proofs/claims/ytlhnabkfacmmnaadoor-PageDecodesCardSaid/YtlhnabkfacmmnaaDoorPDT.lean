/-
  The two tables of package utf8, as the row lists them.
-/
import Derived.Test.YtlhnabkfacmmnaaDoorRows
import Derived.Test.YtlhnabkfacmmnaaDoorPD7
import Derived.Lib.LaidU8T
import Derived.LaidMore
import Derived.Lay
import Derived.SevenTiedAt
namespace Go.Proofs.YtlhnabkfacmmnaaDoor
open Go.RowKit
theorem tabs_types : U8Types Tryd.prog Tryd.lays196_ren := { Tryd.lays196 with }
theorem tabs_extra : U8Extra Tryd.prog Tryd.lays196_ren := ⟨by kernel_rfl, by kernel_rfl, by kernel_rfl, by kernel_rfl, by kernel_rfl, by kernel_rfl, by kernel_rfl⟩
theorem tabs_of {W : World} (hL : laidMet Tryd.prog [("unicode/utf8.acceptRanges", Lib.acceptData), ("unicode/utf8.first", Lib.firstData)] W) : Lib.Utf8Tabs 0 1 W :=
  utf8Tabs_of_readsT tabs_types tabs_extra (Lib.laidMet.reads hL (.tail _ (.head _))) (Lib.laidMet.reads hL (.head _))
theorem tabs_laid {W : World} (hL : laidMetH Tryd.prog Rows.pageEncodesRow.laid W) : Lib.Utf8Tabs 0 1 W := by
  rw [MakeChecks.laidMetH_plain _ _ _ (by kernel_rfl)] at hL
  have he : Rows.pageEncodesRow.laid = [("unicode/utf8.acceptRanges", Lib.acceptData), ("unicode/utf8.first", Lib.firstData)] := by kernel_rfl
  rw [he] at hL
  exact tabs_of hL
theorem tabs_laid2 {W : World} (hL : laidMetH Tryd.prog Rows.pageDecodesRow.laid W) : Lib.Utf8Tabs 0 1 W := by
  rw [MakeChecks.laidMetH_plain _ _ _ (by kernel_rfl)] at hL
  have he : Rows.pageDecodesRow.laid = [("unicode/utf8.acceptRanges", Lib.acceptData), ("unicode/utf8.first", Lib.firstData)] := by kernel_rfl
  rw [he] at hL
  exact tabs_of hL
end Go.Proofs.YtlhnabkfacmmnaaDoor
