/-
  MemoNeeds: the walk of the law.
-/
import Derived.Test.YtcgjhloiokpicaaMc
namespace Go.Proofs.Ytcgjhloiokpicaa
open Go.RowKit
set_option linter.unusedVariables false
set_option linter.unusedSimpArgs false
set_option maxRecDepth 100000 in
set_option maxHeartbeats 4000000 in
theorem needs_law (size n : Int) (w : World) (_ : (Lit.int IntKind.i64 size).wf = true) (_ : (Lit.int IntKind.i64 n).wf = true) : Calls Try.prog 3 #[.int .i64 size, .int .i64 n] w (Give (.bool true) w) := by
  have hN := hid (fun w => Needs_any size n w)
  have hR := hid (fun w => rNeeds_any size n w)
  generalize ndV size n = V at *
  generalize ndE size n = E at *
  go_enter Try.func3, Try.ntmps3
  go_wp2_with fail
  refine (hN.out _).mono ?_
  rintro e w' ⟨rfl, rfl⟩
  go_wp2_with fail
  refine (hR.out _).mono ?_
  rintro e w' ⟨rfl, rfl⟩
  go_wp2_with fail
  refine (known_any _).mono ?_
  rintro e w1 ⟨rfl, hx1⟩
  go_wp2
  go_ret
  exact ⟨rfl, hx1⟩
end Go.Proofs.Ytcgjhloiokpicaa
