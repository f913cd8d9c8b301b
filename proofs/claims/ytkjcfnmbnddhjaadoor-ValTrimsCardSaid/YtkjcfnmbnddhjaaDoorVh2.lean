/-
  The law of texts trimmed and padded.
-/
import Derived.Test.YtkjcfnmbnddhjaaDoorVh1
namespace Go.Proofs.YtkjcfnmbnddhjaaDoor
open Go.RowKit
set_option linter.unusedVariables false
set_option linter.unusedSimpArgs false
set_option maxRecDepth 100000 in
set_option maxHeartbeats 4000000 in
theorem trims_law (s : ByteArray) (n sd : Int) (w : World) (hs : s.size ≤ maxLen) (_ : (Lit.int .i64 n).wf = true) (_ : (Lit.int .i64 sd).wf = true) : Calls Tryd.prog 14 #[.string s, .int .i64 n, .int .i64 sd] w (Give (.bool true) w) := by
  have c1 := hid (fun w => Trim_any s sd w)
  have c2 := hid (fun w => rTrim_any s sd w)
  have c3 := hid (fun w => Pad_any s n sd w)
  have c4 := hid (fun w => rPad_any s n sd w)
  generalize tmS s sd = A at *
  generalize tmE s sd = B at *
  generalize pdS s n sd = C at *
  generalize pdE s n sd = D at *
  by_cases hl : 20000 < s.size
  · have d1 : decide ((20000 : Int) < (s.size : Int)) = true := by simp; omega
    clear hs
    go_enter Tryd.func14, Tryd.ntmps14
    go_wp2_with fail
    refine (known_any _).mono ?_
    rintro e w1 ⟨rfl, hx⟩
    go_wp2
    go_ret
    exact ⟨rfl, hx⟩
  have d1 : decide ((20000 : Int) < (s.size : Int)) = false := by simp; omega
  clear hs hl
  go_enter Tryd.func14, Tryd.ntmps14
  go_wp2_with fail
  refine (c1.out _).mono ?_
  rintro e w1 ⟨rfl, hx1⟩
  go_wp2_with fail
  refine (c2.out _).mono ?_
  rintro e w2 ⟨rfl, hx2⟩
  go_wp2_with fail
  refine (c3.out _).mono ?_
  rintro e w3 ⟨rfl, hx3⟩
  go_wp2_with fail
  refine (c4.out _).mono ?_
  rintro e w4 ⟨rfl, hx4⟩
  go_wp2_with fail
  refine (known_any _).mono ?_
  rintro e w5 ⟨rfl, hx5⟩
  go_wp2
  go_ret
  exact ⟨rfl, (((hx1.trans hx2).trans hx3).trans hx4).trans hx5⟩
end Go.Proofs.YtkjcfnmbnddhjaaDoor
