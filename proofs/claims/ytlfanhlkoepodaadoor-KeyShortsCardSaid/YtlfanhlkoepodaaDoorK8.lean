/-
  The law of the shortest text between two.
-/
import Derived.Test.YtlfanhlkoepodaaDoorK7
namespace Go.Proofs.YtlfanhlkoepodaaDoor
open Go.RowKit
set_option linter.unusedVariables false
set_option linter.unusedSimpArgs false
set_option maxRecDepth 100000 in
set_option maxHeartbeats 4000000 in
theorem shorts_law (a b : ByteArray) (w : World) (hs : a.size ≤ 140737488351232) (ht : b.size ≤ 140737488351232) (hm : ML w) : Calls Tryd.prog 5 #[.string a, .string b] w (Give (.bool true) w) := by
  replace hm := hid hm
  by_cases hl : 4000 < a.size + b.size
  · have d1 : decide ((4000 : Int) < (a.size : Int) + (b.size : Int)) = true := by simp; omega
    go_enter Tryd.func5, Tryd.ntmps5
    go_wp2_with fail
    refine (known_any _ hm.out).mono ?_
    rintro e w1 ⟨rfl, hx⟩
    go_wp2
    go_ret
    exact ⟨rfl, hx⟩
  have d1 : decide ((4000 : Int) < (a.size : Int) + (b.size : Int)) = false := by simp; omega
  have c1 := hid (fun w => Short_any a b (by omega) (by omega) w)
  have c2 := hid (fun w => rShort_any a b (by omega) (by omega) w)
  generalize shoS a b = S at *
  generalize shoE a b = E at *
  clear hl
  go_enter Tryd.func5, Tryd.ntmps5
  go_wp2_with fail
  refine (c1.out _).mono ?_
  rintro e w1 ⟨rfl, hx1⟩
  have hE := hid hx1
  clear hx1
  go_wp2_with fail
  refine (c2.out _).mono ?_
  rintro e w2 ⟨rfl, hx2⟩
  replace hE := hid (hE.out.trans hx2)
  clear hx2
  go_wp2_with fail
  refine (known_any _ (hm.out.ext hE.out)).mono ?_
  rintro e w3 ⟨rfl, hx3⟩
  go_wp2
  go_ret
  exact ⟨rfl, hE.out.trans hx3⟩
end Go.Proofs.YtlfanhlkoepodaaDoor
