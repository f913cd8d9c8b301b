/-
  The law of capitals and small letters, and of how many letters and digits there are: its walk.
-/
import Derived.Test.YtlhnabkfacmmnaaPg7
import Derived.Test.YtlhnabkfacmmnaaPgP
namespace Go.Proofs.Ytlhnabkfacmmnaa
open Go.RowKit
set_option linter.unusedVariables false
set_option linter.unusedSimpArgs false
set_option maxRecDepth 100000 in
set_option maxHeartbeats 4000000 in
theorem cases_law (s : ByteArray) (p : Int) (w : World) (hs : s.size ≤ maxLen) (hp : (Lit.int .i64 p).wf = true) : Calls Try.prog 8 #[.string s, .int .i64 p] w (Give (.bool true) w) := by
  rcases Bool.eq_false_or_eq_true (decide (16384 < s.size)) with h1 | h1
  · go_enter Try.func8, Try.ntmps8
    go_wp2_with fail
    refine (over_any _ _).mono ?_
    rintro e w' ⟨rfl, rfl⟩
    go_wp2_with fail
    refine (known_any _).mono ?_
    rintro e w1 ⟨rfl, hx1⟩
    have hE := hid (Ext.trans (Ext.refl w) hx1)
    clear hx1
    go_wp2
    go_ret
    exact ⟨rfl, hE.out⟩
  · go_enter Try.func8, Try.ntmps8
    go_wp2_with fail
    refine (over_any _ _).mono ?_
    rintro e w' ⟨rfl, rfl⟩
    go_wp2_with fail
    refine (Upper_any s p _).mono ?_
    rintro e w1 ⟨rfl, hx1⟩
    have hE := hid (Ext.trans (Ext.refl w) hx1)
    clear hx1
    go_wp2_with fail
    refine (rUpper_any s p _).mono ?_
    rintro e w2 ⟨rfl, hx2⟩
    replace hE := hid (Ext.trans hE.out hx2)
    clear hx2
    go_wp2_with fail
    refine (Lower_any s p _).mono ?_
    rintro e w3 ⟨rfl, hx3⟩
    replace hE := hid (Ext.trans hE.out hx3)
    clear hx3
    go_wp2_with fail
    refine (rLower_any s p _).mono ?_
    rintro e w4 ⟨rfl, hx4⟩
    replace hE := hid (Ext.trans hE.out hx4)
    clear hx4
    go_wp2_with fail
    refine (Proper_any s p _).mono ?_
    rintro e w5 ⟨rfl, hx5⟩
    replace hE := hid (Ext.trans hE.out hx5)
    clear hx5
    go_wp2_with fail
    refine (rProper_any s p _).mono ?_
    rintro e w6 ⟨rfl, hx6⟩
    replace hE := hid (Ext.trans hE.out hx6)
    clear hx6
    go_wp2_with fail
    refine (Count_any s p _).mono ?_
    rintro e w7 ⟨rfl, hx7⟩
    replace hE := hid (Ext.trans hE.out hx7)
    clear hx7
    go_wp2_with fail
    refine (rCount_any s p _).mono ?_
    rintro e w8 ⟨rfl, hx8⟩
    replace hE := hid (Ext.trans hE.out hx8)
    clear hx8
    go_wp2_with fail
    refine (known_any _).mono ?_
    rintro e w9 ⟨rfl, hx9⟩
    replace hE := hid (Ext.trans hE.out hx9)
    clear hx9
    go_wp2
    go_ret
    exact ⟨rfl, hE.out⟩
end Go.Proofs.Ytlhnabkfacmmnaa
