/-
  The law that the capitals of small letters are the capitals: its walk.
-/
import Derived.Test.YtlhnabkfacmmnaaPg7
import Derived.Test.YtlhnabkfacmmnaaPgP
namespace Go.Proofs.Ytlhnabkfacmmnaa
open Go.RowKit
set_option linter.unusedVariables false
set_option linter.unusedSimpArgs false
theorem Upper_ok (s : ByteArray) (p : Int) (w : World) (hs : s.size ≤ 2048) (h0 : 0 ≤ p) (h2 : p ≤ 2) : Calls Try.prog 18 #[.string s, .int .i64 p] w (GiveSN (mapS (fun x => upS_ x p) s) 0 w) := by
  have h := Upper_any s p w
  have ha := askE_ok hs h0 h2
  rw [okA, if_pos ha, ha] at h
  exact h
theorem Lower_ok (s : ByteArray) (p : Int) (w : World) (hs : s.size ≤ 2048) (h0 : 0 ≤ p) (h2 : p ≤ 2) : Calls Try.prog 19 #[.string s, .int .i64 p] w (GiveSN (mapS (fun x => lowS x p) s) 0 w) := by
  have h := Lower_any s p w
  have ha := askE_ok hs h0 h2
  rw [okA, if_pos ha, ha] at h
  exact h
theorem Proper_ok (s : ByteArray) (p : Int) (w : World) (hs : s.size ≤ 2048) (h0 : 0 ≤ p) (h2 : p ≤ 2) : Calls Try.prog 20 #[.string s, .int .i64 p] w (GiveSN (propB s p) 0 w) := by
  have h := Proper_any s p w
  have ha := askE_ok hs h0 h2
  rw [okA, if_pos ha, ha] at h
  exact h
set_option maxRecDepth 100000 in
set_option maxHeartbeats 4000000 in
theorem folds_law (s : ByteArray) (p : Int) (w : World) (hs : s.size ≤ maxLen) (hp : (Lit.int .i64 p).wf = true) : Calls Try.prog 6 #[.string s, .int .i64 p] w (Give (.bool true) w) := by
  by_cases h1 : 2048 < s.size
  · have e1 : decide ((2048 : Int) < (s.size : Int)) = true := by simp; omega
    go_enter Try.func6, Try.ntmps6
    go_wp2_with fail
    refine (known_any _).mono ?_
    rintro e w1 ⟨rfl, hx1⟩
    have hE := hid (Ext.trans (Ext.refl w) hx1)
    clear hx1
    go_wp2
    go_ret
    exact ⟨rfl, hE.out⟩
  · have e1 : decide ((2048 : Int) < (s.size : Int)) = false := by simp; omega
    by_cases h2 : p < 0
    · have e2 : decide (p < 0) = true := by simpa using h2
      go_enter Try.func6, Try.ntmps6
      go_wp2_with fail
      refine (known_any _).mono ?_
      rintro e w1 ⟨rfl, hx1⟩
      have hE := hid (Ext.trans (Ext.refl w) hx1)
      clear hx1
      go_wp2
      go_ret
      exact ⟨rfl, hE.out⟩
    · have e2 : decide (p < 0) = false := by simpa using h2
      by_cases h3 : 2 < p
      · have e3 : decide (2 < p) = true := by simpa using h3
        go_enter Try.func6, Try.ntmps6
        go_wp2_with fail
        refine (known_any _).mono ?_
        rintro e w1 ⟨rfl, hx1⟩
        have hE := hid (Ext.trans (Ext.refl w) hx1)
        clear hx1
        go_wp2
        go_ret
        exact ⟨rfl, hE.out⟩
      · have e3 : decide (2 < p) = false := by simpa using h3
        have hpg : Pg p := by unfold Pg; omega
        have q1 := hid (mapS_comp (f := fun x => upS_ x p) (g := fun x => lowS x p) (h := fun x => upS_ x p) s (fun x a b => lowS_rng a b) (fun x a b => up_low hpg a b))
        have q2 := hid (mapS_comp (f := fun x => lowS x p) (g := fun x => upS_ x p) (h := fun x => lowS x p) s (fun x a b => upS_rng a b) (fun x a b => low_up hpg a b))
        have q3 := hid (prop_same s hpg)
        have z1 := hid (mapS_size (fun x => upS_ x p) s)
        have z2 := hid (mapS_size (fun x => lowS x p) s)
        have hs2 : s.size ≤ 2048 := by omega
        have p0 : 0 ≤ p := by omega
        have p2 : p ≤ 2 := by omega
        clear h1 h2 h3
        go_enter Try.func6, Try.ntmps6
        go_wp2_with fail
        refine (Upper_ok s p _ hs2 p0 p2).mono ?_
        rintro e w1 ⟨rfl, hx1⟩
        have hE := hid (Ext.trans (Ext.refl w) hx1)
        clear hx1
        go_wp2_with fail
        refine (Lower_ok s p _ hs2 p0 p2).mono ?_
        rintro e w2 ⟨rfl, hx2⟩
        replace hE := hid (Ext.trans hE.out hx2)
        clear hx2
        go_wp2_with fail
        refine (Upper_ok (mapS (fun x => lowS x p) s) p _ (by rw [z2.out]; exact hs2) p0 p2).mono ?_
        rintro e w3 ⟨rfl, hx3⟩
        replace hE := hid (Ext.trans hE.out hx3)
        clear hx3
        rw [q1.out]
        go_wp2_with fail
        refine (Lower_ok (mapS (fun x => upS_ x p) s) p _ (by rw [z1.out]; exact hs2) p0 p2).mono ?_
        rintro e w4 ⟨rfl, hx4⟩
        replace hE := hid (Ext.trans hE.out hx4)
        clear hx4
        rw [q2.out]
        go_wp2_with fail
        refine (Proper_ok (mapS (fun x => upS_ x p) s) p _ (by rw [z1.out]; exact hs2) p0 p2).mono ?_
        rintro e w5 ⟨rfl, hx5⟩
        replace hE := hid (Ext.trans hE.out hx5)
        clear hx5
        rw [q3.out]
        go_wp2_with fail
        refine (Proper_ok (mapS (fun x => lowS x p) s) p _ (by rw [z2.out]; exact hs2) p0 p2).mono ?_
        rintro e w6 ⟨rfl, hx6⟩
        replace hE := hid (Ext.trans hE.out hx6)
        clear hx6
        have z1 := z1.out
        go_wp2_with fail
        refine (known_any _).mono ?_
        rintro e w7 ⟨rfl, hx7⟩
        replace hE := hid (Ext.trans hE.out hx7)
        clear hx7
        go_wp2
        go_ret
        exact ⟨rfl, hE.out⟩
end Go.Proofs.Ytlhnabkfacmmnaa
