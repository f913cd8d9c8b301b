/-
  The law that keys of texts that begin with a text, and they alone, begin with its prefix.
-/
import Derived.Test.YtlfanhlkoepodaaDoorK18
import Derived.Test.YtlfanhlkoepodaaDoorK10
import Derived.Test.YtlfanhlkoepodaaDoorKO
namespace Go.Proofs.YtlfanhlkoepodaaDoor
open Go.RowKit
set_option linter.unusedVariables false
set_option linter.unusedSimpArgs false
theorem pre_all (s a : ByteArray) : preB s a = a.toList.isPrefixOf s.toList := by
  have h := pre_list s a (k := 0) (Nat.zero_le _)
  rw [ext_all, List.drop_zero] at h
  exact h
theorem begins_is {s t : ByteArray} {p : Int} (hs : s.size ≤ 48) (ht : t.size ≤ 48) : preB (keyB 4 0 t p 0) (strB (preL s p 0)) = preB t s := by
  rw [pre_all, pre_all, strB_toList]
  unfold keyB preL
  rw [strB_toList, wt_0 hs, wt_0 ht]
  show (byo 4 :: escL s.toList).isPrefixOf (byo 4 :: (escL t.toList ++ [0, 0])) = _
  have h := pre_esc s.toList t.toList
  show (byo 4 == byo 4 && (escL s.toList).isPrefixOf (escL t.toList ++ [0, 0])) = _
  rw [h]
  simp
theorem v4 {t : ByteArray} (ht : t.size ≤ 48) : valE 4 0 t = 0 := by rw [val4, if_neg (by omega)]
set_option maxRecDepth 100000 in
set_option maxHeartbeats 4000000 in
theorem begins_law (s t : ByteArray) (x : Int) (w : World) (hs : s.size ≤ 140737488351232) (ht : t.size ≤ 140737488351232) (hx : (Lit.int .i64 x).wf = true) (hm : ML w) : Calls Tryd.prog 7 #[.string s, .string t, .int .i64 x] w (Give (.bool true) w) := by
  replace hm := hid hm
  by_cases h1 : 48 < s.size
  · have d1 : decide ((48 : Int) < (s.size : Int)) = true := by simp; omega
    clear h1
    go_enter Tryd.func7, Tryd.ntmps7
    go_wp2_with fail
    refine (known_any _ (hm.out.ext (Ext.refl w))).mono ?_
    rintro e w1 ⟨rfl, hx1⟩
    go_wp2
    go_ret
    exact ⟨rfl, ((Ext.refl w)).trans hx1⟩
  have d1 : decide ((48 : Int) < (s.size : Int)) = false := by simp; omega
  by_cases h2 : 48 < t.size
  · have d2 : decide ((48 : Int) < (t.size : Int)) = true := by simp; omega
    clear h1 h2
    go_enter Tryd.func7, Tryd.ntmps7
    go_wp2_with fail
    refine (known_any _ (hm.out.ext (Ext.refl w))).mono ?_
    rintro e w1 ⟨rfl, hx1⟩
    go_wp2
    go_ret
    exact ⟨rfl, ((Ext.refl w)).trans hx1⟩
  have d2 : decide ((48 : Int) < (t.size : Int)) = false := by simp; omega
  have hs48 : s.size ≤ 48 := by omega
  have ht48 : t.size ≤ 48 := by omega
  have hs48 := hid hs48
  have ht48 := hid ht48
  clear h1 h2
  have pg := hid (fun w => page_any x (wf_in hx) w)
  clear hx
  have cp := hid (fun p w hm => Prefix_any s p 0 false w hm)
  have ce := hid (fun p w hm => Encode_any 4 0 t p 0 false w hm)
  have ct := hid (fun w => Text_any t w)
  unfold vV at ce ct
  go_enter Tryd.func7, Tryd.ntmps7
  go_wp2_with fail
  refine (pg.out _).mono ?_
  rintro e w' ⟨⟨p, c, hco, rfl⟩, rfl⟩
  have cpp := hid (fun w hm => cp.out p w hm)
  have cee := hid (fun w hm => ce.out p w hm)
  have b1 := begins_is (p := p) hs48.out ht48.out
  rw [enc_yes (by rw [ask_0 hco.1]; exact v4 ht48.out), ask_0 hco.1, v4 ht48.out, turnS_f] at cee
  rw [prS_yes (prE_3 (by rw [ask_0 hco.1]; exact v4 hs48.out) (by have := hs48.out; omega)), prE_3 (by rw [ask_0 hco.1]; exact v4 hs48.out) (by have := hs48.out; omega), turnS_f] at cpp
  clear cp ce hco pg
  generalize keyB 4 0 t p 0 = K at *
  generalize strB (preL s p 0) = Q at *
  go_wp2_with fail
  refine (cpp.out _ hm.out).mono ?_
  rintro e w1 ⟨rfl, hx1⟩
  have hE := hid hx1
  clear hx1
  go_wp2_with fail
  refine (ct.out _).mono ?_
  rintro e w2 ⟨rfl, hx2⟩
  replace hE := hid (hE.out.trans hx2)
  clear hx2
  go_wp2_with fail
  refine (cee.out _ (hm.out.ext hE.out)).mono ?_
  rintro e w3 ⟨rfl, hx3⟩
  replace hE := hid (hE.out.trans hx3)
  clear hx3
  have cb1 := hid (fun w => Begins_any K Q w)
  have cb2 := hid (fun w => Begins_any t s w)
  rw [b1] at cb1
  generalize preB t s = B at *
  clear b1
  go_wp2_with fail
  refine (cb1.out _).mono ?_
  rintro e w' ⟨rfl, rfl⟩
  go_wp2_with fail
  refine (cb2.out _).mono ?_
  rintro e w' ⟨rfl, rfl⟩
  go_wp2_with fail
  refine (known_any _ (hm.out.ext hE.out)).mono ?_
  rintro e w5 ⟨rfl, hx5⟩
  go_wp2
  go_ret
  exact ⟨rfl, (hE.out).trans hx5⟩
end Go.Proofs.YtlfanhlkoepodaaDoor
