/-
  The law of the codes of sounds: its walk.
-/
import Derived.Test.YtlhnabkfacmmnaaPg7
import Derived.Test.YtlhnabkfacmmnaaPg11
namespace Go.Proofs.Ytlhnabkfacmmnaa
open Go.RowKit
set_option linter.unusedVariables false
set_option linter.unusedSimpArgs false
set_option maxRecDepth 100000 in
set_option maxHeartbeats 2000000 in
theorem sounds_law (s : ByteArray) (w : World) (hm : s.size ≤ maxLen) : Calls Try.prog 3 #[.string s] w (Give (.bool true) w) := by
  rcases Bool.eq_false_or_eq_true (decide (16384 < s.size)) with h | h
  · go_enter Try.func3, Try.ntmps3
    go_wp2_with fail
    refine (over_any _ _).mono ?_
    rintro e w' ⟨rfl, rfl⟩
    go_wp2_with fail
    refine (known_any _).mono ?_
    rintro e w1 ⟨rfl, hx⟩
    go_wp2
    go_ret
    exact ⟨rfl, hx⟩
  · go_enter Try.func3, Try.ntmps3
    go_wp2_with fail
    refine (over_any _ _).mono ?_
    rintro e w' ⟨rfl, rfl⟩
    go_wp2_with fail
    refine (Sound_any _ _).mono ?_
    rintro e w1 ⟨rfl, hx1⟩
    go_wp2_with fail
    refine (rSound_any _ _).mono ?_
    rintro e w2 ⟨rfl, hx2⟩
    go_wp2_with fail
    refine (known_any _).mono ?_
    rintro e w3 ⟨rfl, hx3⟩
    have hE := hid ((hx1.trans hx2).trans hx3)
    clear hx1 hx2 hx3
    go_wp2
    go_ret
    exact ⟨rfl, hE.out⟩
end Go.Proofs.Ytlhnabkfacmmnaa
