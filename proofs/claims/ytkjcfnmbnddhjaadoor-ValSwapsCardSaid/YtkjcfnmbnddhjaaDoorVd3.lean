/-
  The text of a number in a width: the program and the reference; the law of numbers.
-/
import Derived.Test.YtkjcfnmbnddhjaaDoorVd2
import Derived.Test.YtkjcfnmbnddhjaaDoorVb3
namespace Go.Proofs.YtkjcfnmbnddhjaaDoor
open Go.RowKit
set_option linter.unusedVariables false
set_option linter.unusedSimpArgs false
def strOk (n wd : Int) : Bool := isNumB n && (decide (1 ≤ wd) && decide (wd ≤ 254))
def strS (n wd : Int) : ByteArray := if strOk n wd then (if wd < (decB n).size then repB 42 wd.toNat else repB 32 (wd.toNat - (decB n).size) ++ decB n) else ByteArray.empty
def strE (n wd : Int) : Int := if strOk n wd then 0 else 1
def GiveSE (s : ByteArray) (x : Int) (w : World) (e : Ending) (w' : World) : Prop := e = .returned (.tuple #[.string s, .int .i64 x]) ∧ Ext w w'
theorem GiveSE.mk (s : ByteArray) (x : Int) {w w' : World} (h : Ext w w') : GiveSE s x w (.returned (.tuple #[.string s, .int .i64 x])) w' := ⟨rfl, h⟩
theorem str_no {n wd : Int} (h : strOk n wd = false) : strS n wd = ByteArray.empty ∧ strE n wd = 1 := by unfold strS strE; rw [h]; exact ⟨rfl, rfl⟩
theorem str_yes {n wd : Int} (h : strOk n wd = true) : strE n wd = 0 := by unfold strE; rw [h]; rfl
theorem str_long {n wd : Int} (h : strOk n wd = true) (hl : wd < (decB n).size) : strS n wd = repB 42 wd.toNat := by unfold strS; rw [if_pos h, if_pos hl]
theorem str_fits {n wd : Int} (h : strOk n wd = true) (hl : ¬ wd < (decB n).size) : strS n wd = repB 32 (wd.toNat - (decB n).size) ++ decB n := by unfold strS; rw [if_pos h, if_neg hl]
set_option maxRecDepth 100000 in
set_option maxHeartbeats 2000000 in
theorem Str_any (n wd : Int) (w : World) : Calls Tryd.prog 48 #[.int .i64 n, .int .i64 wd] w (GiveSE (strS n wd) (strE n wd) w) := by
  rcases Bool.eq_false_or_eq_true (isNumB n) with h0 | h0
  rotate_left
  · obtain ⟨e1, e2⟩ := str_no (n := n) (wd := wd) (by unfold strOk; rw [h0]; rfl)
    rw [e1, e2]
    clear e1 e2
    go_enter Tryd.func48, Tryd.ntmps48
    go_wp2_with fail
    refine (isNum_any _ _).mono ?_
    rintro e w1 ⟨rfl, rfl⟩
    go_wp2
    go_ret2
    exact ⟨rfl, Ext.refl _⟩
  by_cases hw : 1 ≤ wd ∧ wd ≤ 254
  rotate_left
  · obtain ⟨e1, e2⟩ := str_no (n := n) (wd := wd) (by unfold strOk; rw [h0]; simp; omega)
    rw [e1, e2]
    clear e1 e2
    by_cases hw1 : wd < 1
    · have d1 : decide (wd < 1) = true := by simpa using hw1
      clear hw
      go_enter Tryd.func48, Tryd.ntmps48
      go_wp2_with fail
      refine (isNum_any _ _).mono ?_
      rintro e w1 ⟨rfl, rfl⟩
      go_wp2
      go_ret2
      exact ⟨rfl, Ext.refl _⟩
    · have d1 : decide (wd < 1) = false := by simpa using hw1
      have d2 : decide (254 < wd) = true := by simp; omega
      clear hw hw1
      go_enter Tryd.func48, Tryd.ntmps48
      go_wp2_with fail
      refine (isNum_any _ _).mono ?_
      rintro e w1 ⟨rfl, rfl⟩
      go_wp2
      go_ret2
      exact ⟨rfl, Ext.refl _⟩
  have hok : strOk n wd = true := by unfold strOk; rw [h0]; simp; exact hw
  have hn := isNum_iff.1 h0
  have hb := decB_len hn.1 hn.2
  have d1 : decide (wd < 1) = false := by simp; omega
  have d2 : decide (254 < wd) = false := by simp; omega
  rw [str_yes hok]
  have hdec := hid (fun w => dec_any n hn.1 hn.2 w)
  obtain ⟨m, rfl⟩ : ∃ m : Nat, wd = (m : Int) := ⟨wd.toNat, by omega⟩
  by_cases hl : (m : Int) < (decB n).size
  · have d3 : decide ((m : Int) < ((decB n).size : Int)) = true := by simpa using hl
    have d4 : decide (m < (decB n).size) = true := by simpa using hl
    rw [str_long hok hl]
    have hr := hid (fun w => rep_any 42 m (by omega) w)
    clear hok hl hn
    generalize decB n = D at *
    go_enter Tryd.func48, Tryd.ntmps48
    go_wp2_with fail
    refine (isNum_any _ _).mono ?_
    rintro e w1 ⟨rfl, rfl⟩
    go_wp2_with fail
    refine (hdec.out _).mono ?_
    rintro e w1 ⟨rfl, hd⟩
    go_wp2_with fail
    refine (hr.out _).mono ?_
    rintro e w2 ⟨rfl, hx⟩
    go_wp2
    go_ret2
    exact ⟨rfl, ((Dr.ext hd).trans hx)⟩
  · have d3 : decide ((m : Int) < ((decB n).size : Int)) = false := by simpa using hl
    have d4 : decide (m < (decB n).size) = false := by simpa using hl
    rw [str_fits hok hl]
    have hm : (decB n).size ≤ m := by omega
    obtain ⟨j, hj⟩ : ∃ j : Nat, m = (decB n).size + j := ⟨m - (decB n).size, by omega⟩
    have hr := hid (fun w => rep_any 32 j (by omega) w)
    have hadd : ∀ wx, (Op.stringOp .add (repB 32 j) (decB n)).run Tryd.prog wx = .ok (.string (repB 32 j ++ decB n)) wx := str_add _ _ (by rw [repB_size]; omega)
    have ej : (m : Int) - ((decB n).size : Int) = (j : Int) := by omega
    rw [show (m : Int).toNat - (decB n).size = j by omega]
    replace ej := hid ej
    replace hm := hid hm
    replace hj := hid hj
    clear hok hl hn
    generalize decB n = D at *
    go_enter Tryd.func48, Tryd.ntmps48
    go_wp2_with fail
    refine (isNum_any _ _).mono ?_
    rintro e w1 ⟨rfl, rfl⟩
    go_wp2_with fail
    refine (hdec.out _).mono ?_
    rintro e w1 ⟨rfl, hd⟩
    go_wp2_with fail
    rw [ej.out]
    refine (hr.out _).mono ?_
    rintro e w2 ⟨rfl, hx⟩
    go_wp2
    go_ret2
    exact ⟨rfl, ((Dr.ext hd).trans hx)⟩
set_option maxRecDepth 100000 in
set_option maxHeartbeats 2000000 in
theorem rStr_any (n wd : Int) (w : World) : Calls Tryd.prog 49 #[.int .i64 n, .int .i64 wd] w (GiveSE (strS n wd) (strE n wd) w) := by
  rcases Bool.eq_false_or_eq_true (isNumB n) with h0 | h0
  rotate_left
  · obtain ⟨e1, e2⟩ := str_no (n := n) (wd := wd) (by unfold strOk; rw [h0]; rfl)
    rw [e1, e2]
    clear e1 e2
    go_enter Tryd.func49, Tryd.ntmps49
    go_wp2_with fail
    refine (rInNum_any _ _).mono ?_
    rintro e w1 ⟨rfl, rfl⟩
    go_wp2
    go_ret2
    exact ⟨rfl, Ext.refl _⟩
  by_cases hw : 1 ≤ wd ∧ wd ≤ 254
  rotate_left
  · obtain ⟨e1, e2⟩ := str_no (n := n) (wd := wd) (by unfold strOk; rw [h0]; simp; omega)
    rw [e1, e2]
    clear e1 e2
    by_cases hw1 : wd < 1
    · have d1 : decide (wd < 1) = true := by simpa using hw1
      clear hw
      go_enter Tryd.func49, Tryd.ntmps49
      go_wp2_with fail
      refine (rInNum_any _ _).mono ?_
      rintro e w1 ⟨rfl, rfl⟩
      go_wp2
      go_ret2
      exact ⟨rfl, Ext.refl _⟩
    · have d1 : decide (wd < 1) = false := by simpa using hw1
      have d2 : decide (254 < wd) = true := by simp; omega
      clear hw hw1
      go_enter Tryd.func49, Tryd.ntmps49
      go_wp2_with fail
      refine (rInNum_any _ _).mono ?_
      rintro e w1 ⟨rfl, rfl⟩
      go_wp2
      go_ret2
      exact ⟨rfl, Ext.refl _⟩
  have hok : strOk n wd = true := by unfold strOk; rw [h0]; simp; exact hw
  have hn := isNum_iff.1 h0
  have hb := decB_len hn.1 hn.2
  have d1 : decide (wd < 1) = false := by simp; omega
  have d2 : decide (254 < wd) = false := by simp; omega
  rw [str_yes hok]
  have hdec := hid (fun w => wri_any n hn.1 hn.2 w)
  obtain ⟨m, rfl⟩ : ∃ m : Nat, wd = (m : Int) := ⟨wd.toNat, by omega⟩
  by_cases hl : (m : Int) < (decB n).size
  · have d3 : decide ((m : Int) < ((decB n).size : Int)) = true := by simpa using hl
    have d4 : decide (m < (decB n).size) = true := by simpa using hl
    rw [str_long hok hl]
    have hr := hid (fun w => Times_any 42 m (by omega) w)
    clear hok hl hn
    generalize decB n = D at *
    go_enter Tryd.func49, Tryd.ntmps49
    go_wp2_with fail
    refine (rInNum_any _ _).mono ?_
    rintro e w1 ⟨rfl, rfl⟩
    go_wp2_with fail
    refine (hdec.out _).mono ?_
    rintro e w1 ⟨rfl, rfl⟩
    go_wp2_with fail
    refine (hr.out _).mono ?_
    rintro e w2 ⟨rfl, rfl⟩
    go_wp2
    go_ret2
    exact ⟨rfl, (Ext.refl _)⟩
  · have d3 : decide ((m : Int) < ((decB n).size : Int)) = false := by simpa using hl
    have d4 : decide (m < (decB n).size) = false := by simpa using hl
    rw [str_fits hok hl]
    have hm : (decB n).size ≤ m := by omega
    obtain ⟨j, hj⟩ : ∃ j : Nat, m = (decB n).size + j := ⟨m - (decB n).size, by omega⟩
    have hr := hid (fun w => Times_any 32 j (by omega) w)
    have hadd : ∀ wx, (Op.stringOp .add (repB 32 j) (decB n)).run Tryd.prog wx = .ok (.string (repB 32 j ++ decB n)) wx := str_add _ _ (by rw [repB_size]; omega)
    have ej : (m : Int) - ((decB n).size : Int) = (j : Int) := by omega
    rw [show (m : Int).toNat - (decB n).size = j by omega]
    replace ej := hid ej
    replace hm := hid hm
    replace hj := hid hj
    clear hok hl hn
    generalize decB n = D at *
    go_enter Tryd.func49, Tryd.ntmps49
    go_wp2_with fail
    refine (rInNum_any _ _).mono ?_
    rintro e w1 ⟨rfl, rfl⟩
    go_wp2_with fail
    refine (hdec.out _).mono ?_
    rintro e w1 ⟨rfl, rfl⟩
    go_wp2_with fail
    rw [ej.out]
    refine (hr.out _).mono ?_
    rintro e w2 ⟨rfl, rfl⟩
    go_wp2
    go_ret2
    exact ⟨rfl, (Ext.refl _)⟩
set_option maxRecDepth 100000 in
set_option maxHeartbeats 2000000 in
theorem numbers_law (n wd : Int) (s : ByteArray) (w : World) (_ : (Lit.int .i64 n).wf = true) (_ : (Lit.int .i64 wd).wf = true) (hs : s.size ≤ maxLen) : Calls Tryd.prog 13 #[.int .i64 n, .int .i64 wd, .string s] w (Give (.bool true) w) := by
  have c1 := hid (fun w => Str_any n wd w)
  have c2 := hid (fun w => rStr_any n wd w)
  have c3 := hid (fun w => Val_any s hs w)
  have c4 := hid (fun w => rVal_any s hs w)
  by_cases hl : 20000 < s.size
  · have d1 : decide ((20000 : Int) < (s.size : Int)) = true := by simp; omega
    clear hs
    go_enter Tryd.func13, Tryd.ntmps13
    go_wp2_with fail
    refine (known_any _).mono ?_
    rintro e w1 ⟨rfl, hx⟩
    go_wp2
    go_ret
    exact ⟨rfl, hx⟩
  have d1 : decide ((20000 : Int) < (s.size : Int)) = false := by simp; omega
  clear hs hl
  rcases Bool.eq_false_or_eq_true (strOk n wd) with hok | hok
  rotate_left
  · obtain ⟨e1, e2⟩ := str_no hok
    rw [e1, e2] at c1 c2
    clear e1 e2
    go_enter Tryd.func13, Tryd.ntmps13
    go_wp2_with fail
    refine (c1.out _).mono ?_
    rintro e w1 ⟨rfl, hx1⟩
    go_wp2_with fail
    refine (c2.out _).mono ?_
    rintro e w2 ⟨rfl, hx2⟩
    go_wp2_with fail
    refine (c3.out _).mono ?_
    rintro e w' ⟨rfl, rfl⟩
    go_wp2_with fail
    refine (c4.out _).mono ?_
    rintro e w' ⟨rfl, rfl⟩
    go_wp2_with fail
    refine (known_any _).mono ?_
    rintro e w3 ⟨rfl, hx3⟩
    go_wp2
    go_ret
    exact ⟨rfl, (hx1.trans hx2).trans hx3⟩
  have e2 := str_yes hok
  have hn := isNum_iff.1 (show isNumB n = true by unfold strOk at hok; simp at hok; exact hok.1)
  have hw : 1 ≤ wd ∧ wd ≤ 254 := by unfold strOk at hok; simp at hok; exact hok.2
  have hb := decB_len hn.1 hn.2
  have hT : 1 ≤ (strS n wd).size ∧ (strS n wd).size ≤ 300 ∧ (((strS n wd).toList.drop 0).head? ≠ some 42 → valI (strS n wd) = n) := by
    by_cases hl : wd < (decB n).size
    · rw [str_long hok hl, repB_size]
      refine ⟨by omega, by omega, fun h => ?_⟩
      exfalso
      apply h
      unfold repB
      rw [strB_toList, List.drop_zero]
      obtain ⟨k, hk⟩ : ∃ k, wd.toNat = k + 1 := ⟨wd.toNat - 1, by omega⟩
      rw [hk]
      rfl
    · rw [str_fits hok hl]
      refine ⟨by rw [ByteArray.size_append]; omega, by rw [ByteArray.size_append, repB_size]; omega, fun _ => val_dec _ n hn.1 hn.2⟩
  rw [e2] at c1 c2
  clear e2 hok hb hw hn
  generalize strS n wd = T at *
  obtain ⟨h1, h2, h3⟩ := hT
  have c5 := hid (fun w => Val_any T (by unfold maxLen; omega) w)
  have hl1 : T.toList ≠ [] := by intro e; have := len_toList T; rw [e] at this; simp at this; omega
  have hl : T.toList.isEmpty = false := by simpa using hl1
  have h0 : 0 < T.size := by omega
  have hd := drop_byte T h0
  rw [hd] at h3
  clear hd hl1
  rcases Bool.eq_false_or_eq_true (((T[0]'h0).toNat : Int) == 42) with q | q
  · have q' : (((T[0]'h0).toNat : Int) != 42) = false := by simpa using q
    clear h3
    go_enter Tryd.func13, Tryd.ntmps13
    go_wp2_with fail
    refine (c1.out _).mono ?_
    rintro e w1 ⟨rfl, hx1⟩
    go_wp2_with fail
    refine (c2.out _).mono ?_
    rintro e w2 ⟨rfl, hx2⟩
    go_wp2_with fail
    refine (c3.out _).mono ?_
    rintro e w' ⟨rfl, rfl⟩
    go_wp2_with fail
    refine (c4.out _).mono ?_
    rintro e w' ⟨rfl, rfl⟩
    go_wp2_with fail
    refine (known_any _).mono ?_
    rintro e w3 ⟨rfl, hx3⟩
    go_wp2
    go_ret
    exact ⟨rfl, (hx1.trans hx2).trans hx3⟩
  · have q' : (((T[0]'h0).toNat : Int) != 42) = true := by simpa using q
    have hv := hid (h3 (by simp at q ⊢; intro e; apply q; rw [e]; rfl))
    clear h3
    go_enter Tryd.func13, Tryd.ntmps13
    go_wp2_with fail
    refine (c1.out _).mono ?_
    rintro e w1 ⟨rfl, hx1⟩
    go_wp2_with fail
    refine (c2.out _).mono ?_
    rintro e w2 ⟨rfl, hx2⟩
    go_wp2_with fail
    refine (c3.out _).mono ?_
    rintro e w' ⟨rfl, rfl⟩
    go_wp2_with fail
    refine (c4.out _).mono ?_
    rintro e w' ⟨rfl, rfl⟩
    go_wp2_with fail
    refine (c5.out _).mono ?_
    rintro e w' ⟨rfl, rfl⟩
    rw [hv.out]
    go_wp2_with fail
    refine (known_any _).mono ?_
    rintro e w3 ⟨rfl, hx3⟩
    go_wp2
    go_ret
    exact ⟨rfl, (hx1.trans hx2).trans hx3⟩
end Go.Proofs.YtkjcfnmbnddhjaaDoor
