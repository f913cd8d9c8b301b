/-
  The law of a text's bytes: its walk.
-/
import Derived.Test.YtlhnabkfacmmnaaDoorPD9
namespace Go.Proofs.YtlhnabkfacmmnaaDoor
open Go.RowKit
set_option linter.unusedVariables false
set_option linter.unusedSimpArgs false
set_option maxRecDepth 100000 in
set_option maxHeartbeats 4000000 in
theorem encodes_law (s : ByteArray) (p : Int) (w : World) (hs : s.size ≤ maxLen) (hp : (Lit.int .i64 p).wf = true) (hT : Lib.Utf8Tabs 0 1 w) : Calls Tryd.prog 3 #[.string s, .int .i64 p] w (Give (.bool true) w) := by
  have hs2 : s.size ≤ 9223372036854775807 := by unfold maxLen at hs; omega
  replace hT := hid hT
  rcases Bool.eq_false_or_eq_true (decide (16384 < s.size)) with h1 | h1
  · go_enter Tryd.func3, Tryd.ntmps3
    go_wp2_with fail
    refine (over_any _ _).mono ?_
    rintro e w' ⟨rfl, rfl⟩
    go_wp2_with fail
    refine (known_any _).mono ?_
    rintro e w1 ⟨rfl, hx1⟩
    have hE := hid (Ext.trans (Ext.refl w) hx1)
    clear hx1
    go_wp2
    go_ret
    exact ⟨rfl, hE.out⟩
  · go_enter Tryd.func3, Tryd.ntmps3
    go_wp2_with fail
    refine (over_any _ _).mono ?_
    rintro e w' ⟨rfl, rfl⟩
    go_wp2_with fail
    refine (Encode_any s p _ hs2 hT.out).mono ?_
    rintro e w1 ⟨rfl, hx1⟩
    have hE := hid (Ext.trans (Ext.refl w) hx1)
    clear hx1
    go_wp2_with fail
    refine (rEncode_any s p _ hs2 (tabs_ext hT.out hE.out)).mono ?_
    rintro e w2 ⟨rfl, hx2⟩
    replace hE := hid (Ext.trans hE.out hx2)
    clear hx2
    go_wp2_with fail
    refine (known_any _).mono ?_
    rintro e w3 ⟨rfl, hx3⟩
    replace hE := hid (Ext.trans hE.out hx3)
    clear hx3
    go_wp2
    go_ret
    exact ⟨rfl, hE.out⟩
end Go.Proofs.YtlhnabkfacmmnaaDoor
