/-
  The law of the values of a compound key.
-/
import Derived.Test.YtlfanhlkoepodaaDoorK20
import Derived.Test.YtlfanhlkoepodaaDoorK7
namespace Go.Proofs.YtlfanhlkoepodaaDoor
open Go.RowKit
set_option linter.unusedVariables false
set_option linter.unusedSimpArgs false
set_option maxRecDepth 100000 in
set_option maxHeartbeats 4000000 in
theorem splits_law (k : ByteArray) (A : Option Addr) (n c : Nat) (ds : List Bool) (w : World) (hs : k.size ≤ 140737488351232) (hd : RdO w A n c ds) (hn : n ≤ 140737488351232) (hm : ML w) : Calls Tryd.prog 11 #[.string k, .slice A n c] w (Give (.bool true) w) := by
  replace hm := hid hm
  have hnm := Rd.max hd
  have ew : wrap64 ((k.size : Int) + (n : Int)) = (k.size : Int) + (n : Int) := IntWalk.wrap64_in _ ⟨by omega, by omega⟩
  by_cases hl : 40000 < k.size + n
  · have d1 : decide ((40000 : Int) < (k.size : Int) + (n : Int)) = true := by simp; omega
    clear hl
    go_enter Tryd.func11, Tryd.ntmps11
    go_wp2_with fail
    refine (known_any _ (hm.out.ext (Ext.refl w))).mono ?_
    rintro e w1 ⟨rfl, hx1⟩
    go_wp2
    go_ret
    exact ⟨rfl, ((Ext.refl w)).trans hx1⟩
  have d1 : decide ((40000 : Int) < (k.size : Int) + (n : Int)) = false := by simp; omega
  have c1 := hid (fun w h => Split_any k A n c ds (by omega) (by omega) w h)
  have c2 := hid (fun w h => rSplit_any k A n c ds (by omega) (by omega) w h)
  generalize splA [] k.toList ds = R at *
  replace hd := hid hd
  have hl2 : k.size ≤ 40000 ∧ n ≤ 40000 := by omega
  clear hl
  obtain ⟨hl3, hl4⟩ := hl2
  go_enter Tryd.func11, Tryd.ntmps11
  go_wp2_with fail
  refine (c1.out _ hd.out).mono ?_
  rintro e w1 ⟨A1, n1, e1, rfl, hr1, hx1⟩
  replace hr1 := hid hr1
  have hE := hid hx1
  clear hx1
  go_wp2_with fail
  refine (c2.out _ (hd.out.ext hE.out)).mono ?_
  rintro e w2 ⟨A2, n2, e2, rfl, hr2, hx2⟩
  replace hr1 := hid (hr1.out.ext hx2)
  replace hE := hid (hE.out.trans hx2)
  obtain rfl : n2 = n1 := by rw [← hr2.len, ← hr1.out.len]
  clear hx2
  have sv := hid (SameVs_any A1 n2 e1 A2 e2 R.1 w2 hr1.out hr2)
  clear hr1 hr2
  go_wp2_with fail
  refine sv.out.mono ?_
  rintro e w3 ⟨rfl, hx3⟩
  replace hE := hid (hE.out.trans hx3)
  clear hx3
  go_wp2_with fail
  refine (known_any _ (hm.out.ext hE.out)).mono ?_
  rintro e w4 ⟨rfl, hx4⟩
  go_wp2
  go_ret
  exact ⟨rfl, (hE.out).trans hx4⟩
end Go.Proofs.YtlfanhlkoepodaaDoor
