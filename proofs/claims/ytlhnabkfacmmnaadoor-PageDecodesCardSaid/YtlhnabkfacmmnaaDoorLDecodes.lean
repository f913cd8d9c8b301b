/-
  The law of the characters of bytes: its walk.
-/
import Derived.Test.YtlhnabkfacmmnaaDoorPD9
namespace Go.Proofs.YtlhnabkfacmmnaaDoor
open Go.RowKit
set_option linter.unusedVariables false
set_option linter.unusedSimpArgs false
theorem dec_small {p : Int} {s : ByteArray} : (decB p s).size ≤ 9223372036854775807 := by
  unfold decB
  split
  · rename_i h
    have ha : askE p [s] = 0 := by
      unfold decE at h
      by_cases h1 : askE p [s] = 0
      · exact h1
      · rw [if_neg h1] at h; exact absurd h h1
    have := (ask_ok ha).1
    have h2 := dcS_le p.toNat s.toList
    have hl : s.toList.length = s.size := by rw [ByteArray.toList_eq]; rfl
    rw [strB_size]
    omega
  · decide
set_option maxRecDepth 100000 in
set_option maxHeartbeats 4000000 in
theorem decodes_law (s : ByteArray) (p : Int) (w : World) (hs : s.size ≤ maxLen) (hp : (Lit.int .i64 p).wf = true) (hT : Lib.Utf8Tabs 0 1 w) : Calls Tryd.prog 4 #[.string s, .int .i64 p] w (Give (.bool true) w) := by
  have hs2 : s.size ≤ 9223372036854775807 := by unfold maxLen at hs; omega
  replace hT := hid hT
  rcases Bool.eq_false_or_eq_true (decide (16384 < s.size)) with h1 | h1
  · go_enter Tryd.func4, Tryd.ntmps4
    go_wp2_with fail
    refine (over_any _ _).mono ?_
    rintro e w' ⟨rfl, rfl⟩
    go_wp2_with fail
    refine (known_any _).mono ?_
    rintro e w1 ⟨rfl, hx1⟩
    have hE := hid (Ext.trans (Ext.refl w) hx1)
    clear hx1
    go_wp2
    go_ret
    exact ⟨rfl, hE.out⟩
  · by_cases h0 : decE p s = 0
    · have d0 : (decE p s != 0) = false := by simp [h0]
      have hbk := hid (back_eq h0)
      have hsm := hid (dec_small (p := p) (s := s))
      clear h0
      go_enter Tryd.func4, Tryd.ntmps4
      go_wp2_with fail
      refine (over_any _ _).mono ?_
      rintro e w' ⟨rfl, rfl⟩
      go_wp2_with fail
      refine (Decode_any s p _).mono ?_
      rintro e w1 ⟨rfl, hx1⟩
      have hE := hid (Ext.trans (Ext.refl w) hx1)
      clear hx1
      go_wp2_with fail
      refine (rDecode_any s p _).mono ?_
      rintro e w2 ⟨rfl, hx2⟩
      replace hE := hid (Ext.trans hE.out hx2)
      clear hx2
      go_wp2_with fail
      refine (Valid_any s p _).mono ?_
      rintro e w3 ⟨rfl, hx3⟩
      replace hE := hid (Ext.trans hE.out hx3)
      clear hx3
      go_wp2_with fail
      refine (rValid_any s p _).mono ?_
      rintro e w4 ⟨rfl, hx4⟩
      replace hE := hid (Ext.trans hE.out hx4)
      clear hx4
      go_wp2_with fail
      refine (Encode_any (decB p s) p _ hsm.out (tabs_ext hT.out hE.out)).mono ?_
      rintro e w5 ⟨rfl, hx5⟩
      replace hE := hid (Ext.trans hE.out hx5)
      clear hx5
      rw [hbk.out.1, hbk.out.2]
      go_wp2_with fail
      refine (known_any _).mono ?_
      rintro e w6 ⟨rfl, hx6⟩
      replace hE := hid (Ext.trans hE.out hx6)
      clear hx6
      go_wp2
      go_ret
      exact ⟨rfl, hE.out⟩
    · have d0 : (decE p s != 0) = true := by simp [h0]
      clear h0
      go_enter Tryd.func4, Tryd.ntmps4
      go_wp2_with fail
      refine (over_any _ _).mono ?_
      rintro e w' ⟨rfl, rfl⟩
      go_wp2_with fail
      refine (Decode_any s p _).mono ?_
      rintro e w1 ⟨rfl, hx1⟩
      have hE := hid (Ext.trans (Ext.refl w) hx1)
      clear hx1
      go_wp2_with fail
      refine (rDecode_any s p _).mono ?_
      rintro e w2 ⟨rfl, hx2⟩
      replace hE := hid (Ext.trans hE.out hx2)
      clear hx2
      go_wp2_with fail
      refine (Valid_any s p _).mono ?_
      rintro e w3 ⟨rfl, hx3⟩
      replace hE := hid (Ext.trans hE.out hx3)
      clear hx3
      go_wp2_with fail
      refine (rValid_any s p _).mono ?_
      rintro e w4 ⟨rfl, hx4⟩
      replace hE := hid (Ext.trans hE.out hx4)
      clear hx4
      go_wp2_with fail
      refine (known_any _).mono ?_
      rintro e w5 ⟨rfl, hx5⟩
      replace hE := hid (Ext.trans hE.out hx5)
      clear hx5
      go_wp2
      go_ret
      exact ⟨rfl, hE.out⟩
end Go.Proofs.YtlhnabkfacmmnaaDoor
