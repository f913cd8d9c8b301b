/-
  What values there are; results of operations.
-/
import Derived.Test.YtkjcfnmbnddhjaaDoorVa3
import Derived.Test.YtkjcfnmbnddhjaaDoorVaQ
namespace Go.Proofs.YtkjcfnmbnddhjaaDoor
open Go.RowKit
set_option linter.unusedVariables false
set_option linter.unusedSimpArgs false
/-- A value. -/
def vV (k n : Int) (s : ByteArray) : Value := .agg #[.int .i64 k, .int .i64 n, .string s]
def vR (k n : Int) (s : ByteArray) (why : Int) : Value := .agg #[.int .i64 k, .int .i64 n, .string s, .int .i64 why]
def isNumB (n : Int) : Bool := decide (-1000000000000000 ≤ n) && decide (n ≤ 1000000000000000)
theorem isNum_iff {n : Int} : isNumB n = true ↔ -1000000000000000 ≤ n ∧ n ≤ 1000000000000000 := by unfold isNumB; simp
theorem isNum_any (n : Int) (w : World) : Calls Tryd.prog 94 #[.int .i64 n] w fun e w' => e = .returned (.bool (isNumB n)) ∧ w = w' := by
  rcases Bool.eq_false_or_eq_true (decide (-1000000000000000 ≤ n)) with h1 | h1 <;> rcases Bool.eq_false_or_eq_true (decide (n ≤ 1000000000000000)) with h2 | h2
  all_goals have Fin := hid (show isNumB n = _ by unfold isNumB; rw [h1, h2])
  all_goals go_enter Tryd.func94, Tryd.ntmps94
  all_goals go_wp2
  all_goals go_ret
  all_goals exact ⟨ret_bool (by rw [Fin.out]; rfl), rfl⟩
def isV (k n : Int) (s : ByteArray) : Bool :=
  if k = 4 then decide (n = 0) else if s.size ≠ 0 then false else
  if k = 0 then decide (n = 0) else if k = 1 then decide (n = 0 ∨ n = 1) else if k = 2 then isNumB n else if k = 3 then isDayB n else false
theorem empty_iff (s : ByteArray) : s.toList.isEmpty = decide (s.size = 0) := by
  rw [← len_toList]
  cases s.toList <;> simp
set_option maxRecDepth 100000 in
set_option maxHeartbeats 4000000 in
theorem isValue_any (k n : Int) (s : ByteArray) (w : World) : Calls Tryd.prog 92 #[vV k n s] w (Give (.bool (isV k n s)) w) := by
  unfold vV
  by_cases k4 : k = 4
  · subst k4
    by_cases n0 : n = 0
    · subst n0
      have Fin : Hid (isV 4 0 s = true) := by unfold Hid isV; simp
      go_enter Tryd.func92, Tryd.ntmps92
      go_wp2
      go_ret
      exact ⟨ret_bool Fin.out.symm, (Ext.refl w).alloc_right _⟩
    · have d : (n != 0) = true := by simpa using n0
      have Fin : Hid (isV 4 n s = false) := by unfold Hid isV; simp [n0]
      clear n0
      go_enter Tryd.func92, Tryd.ntmps92
      go_wp2
      go_ret
      exact ⟨ret_bool Fin.out.symm, (Ext.refl w).alloc_right _⟩
  · have d4 : (k != 4) = true := by simpa using k4
    have e4 : (k == 4) = false := by simpa using k4
    rcases Bool.eq_false_or_eq_true (s.toList.isEmpty) with hs | hs
    · have hz : s.size = 0 := by have := empty_iff s; rw [hs] at this; simpa using this.symm
      have hv : Hid (isV k n s = if k = 0 then decide (n = 0) else if k = 1 then decide (n = 0 ∨ n = 1) else if k = 2 then isNumB n else if k = 3 then isDayB n else false) := by unfold Hid isV; rw [if_neg k4, if_neg (by simpa using hz)]
      have hs1 : s.toList = [] := by simpa using hs
      have hs2 : (!s.toList.isEmpty) = false := by rw [hs]; rfl
      clear hz k4
      by_cases k0 : k = 0
      · subst k0
        have Fin : Hid (isV 0 n s = (n == 0)) := by unfold Hid; rw [hv.out]; rfl
        go_enter Tryd.func92, Tryd.ntmps92
        go_wp2
        go_ret
        exact ⟨ret_bool Fin.out.symm, (Ext.refl w).alloc_right _⟩
      · have d0 : (k == 0) = false := by simpa using k0
        by_cases k1 : k = 1
        · subst k1
          rcases Bool.eq_false_or_eq_true (n == 0) with n0 | n0 <;> rcases Bool.eq_false_or_eq_true (n == 1) with n1 | n1
          all_goals have Fin := hid (show isV 1 n s = (n == 0 || n == 1) by rw [hv.out]; simp; rcases Decidable.em (n = 0) with h | h <;> rcases Decidable.em (n = 1) with h' | h' <;> simp [h, h'])
          all_goals go_enter Tryd.func92, Tryd.ntmps92
          all_goals go_wp2
          all_goals go_ret
          all_goals exact ⟨ret_bool (by rw [Fin.out, n0, n1]; rfl), (Ext.refl w).alloc_right _⟩
        · have d1 : (k == 1) = false := by simpa using k1
          by_cases k2 : k = 2
          · subst k2
            have Fin : Hid (isV 2 n s = isNumB n) := by unfold Hid; rw [hv.out]; rfl
            go_enter Tryd.func92, Tryd.ntmps92
            go_wp2_with fail
            refine (isNum_any _ _).mono ?_
            rintro e w' ⟨rfl, rfl⟩
            go_wp2
            go_ret
            exact ⟨ret_bool Fin.out.symm, (Ext.refl w).alloc_right _⟩
          · have d2 : (k == 2) = false := by simpa using k2
            by_cases k3 : k = 3
            · subst k3
              have Fin : Hid (isV 3 n s = isDayB n) := by unfold Hid; rw [hv.out]; rfl
              go_enter Tryd.func92, Tryd.ntmps92
              go_wp2_with fail
              refine (isDay_any _ _).mono ?_
              rintro e w' ⟨rfl, rfl⟩
              go_wp2
              go_ret
              exact ⟨ret_bool Fin.out.symm, (Ext.refl w).alloc_right _⟩
            · have d3 : (k == 3) = false := by simpa using k3
              have Fin : Hid (isV k n s = false) := by unfold Hid; rw [hv.out, if_neg k0, if_neg k1, if_neg k2, if_neg k3]
              clear k0 k1 k2 k3
              go_enter Tryd.func92, Tryd.ntmps92
              go_wp2
              go_ret
              exact ⟨ret_bool Fin.out.symm, (Ext.refl w).alloc_right _⟩
    · have hz : s.size ≠ 0 := by have := empty_iff s; rw [hs] at this; simpa using this.symm
      have hs2 : (!s.toList.isEmpty) = true := by rw [hs]; rfl
      have Fin : Hid (isV k n s = false) := by unfold Hid isV; rw [if_neg k4, if_pos hz]
      clear hz k4
      go_enter Tryd.func92, Tryd.ntmps92
      go_wp2
      go_ret
      exact ⟨ret_bool Fin.out.symm, (Ext.refl w).alloc_right _⟩
def valE (k n : Int) (s : ByteArray) : Int := if 2048 < s.size then 3 else if isV k n s then 0 else 1
set_option maxRecDepth 100000 in
set_option maxHeartbeats 2000000 in
theorem Validate_any (k n : Int) (s : ByteArray) (w : World) : Calls Tryd.prog 44 #[vV k n s] w (Give (.int .i64 (valE k n s)) w) := by
  unfold vV
  by_cases hb : 2048 < s.size
  · have e1 : decide ((2048 : Int) < (s.size : Int)) = true := by simp; omega
    have Fin : Hid (valE k n s = 3) := by unfold Hid valE; rw [if_pos hb]
    clear hb
    go_enter Tryd.func44, Tryd.ntmps44
    go_wp2
    go_ret
    exact ⟨ret_int Fin.out.symm, (Ext.refl w).alloc_right _⟩
  · have e1 : decide ((2048 : Int) < (s.size : Int)) = false := by simp; omega
    rcases Bool.eq_false_or_eq_true (isV k n s) with hv | hv
    · have Fin : Hid (valE k n s = 0) := by unfold Hid valE; rw [if_neg hb, if_pos hv]
      clear hb
      go_enter Tryd.func44, Tryd.ntmps44
      go_wp2_with fail
      refine (isValue_any k n s _).mono ?_
      rintro e w1 ⟨rfl, hx⟩
      go_wp2
      go_ret
      exact ⟨ret_int Fin.out.symm, ((Ext.refl w).alloc_right _).trans hx⟩
    · have Fin : Hid (valE k n s = 1) := by unfold Hid valE; rw [if_neg hb, if_neg (by rw [hv]; simp)]
      clear hb
      go_enter Tryd.func44, Tryd.ntmps44
      go_wp2_with fail
      refine (isValue_any k n s _).mono ?_
      rintro e w1 ⟨rfl, hx⟩
      go_wp2
      go_ret
      exact ⟨ret_int Fin.out.symm, ((Ext.refl w).alloc_right _).trans hx⟩
def bothE (k n : Int) (s : ByteArray) (k' n' : Int) (s' : ByteArray) : Int := if valE k n s ≠ 0 then valE k n s else valE k' n' s'
set_option maxRecDepth 100000 in
set_option maxHeartbeats 2000000 in
theorem both_any (k n : Int) (s : ByteArray) (k' n' : Int) (s' : ByteArray) (w : World) : Calls Tryd.prog 59 #[vV k n s, vV k' n' s'] w (Give (.int .i64 (bothE k n s k' n' s')) w) := by
  unfold vV
  have hx0 := hid (((Ext.refl w).alloc_right (.cells #[.int .i64 k, .int .i64 n, .string s] 23)).alloc_right (.cells #[.int .i64 k', .int .i64 n', .string s'] 23))
  by_cases h : valE k n s = 0
  · have e1 : (valE k n s != 0) = false := by simp [h]
    have Fin : Hid (bothE k n s k' n' s' = valE k' n' s') := by unfold Hid bothE; rw [if_neg (by simpa using h)]
    clear h
    go_enter Tryd.func59, Tryd.ntmps59
    go_wp2_with fail
    refine (Validate_any k n s _).mono ?_
    rintro e w1 ⟨rfl, hx1⟩
    have hE := hid (hx0.out.trans hx1)
    have c0 : w1.cell? ⟨w.heap.size + 1, 0, none⟩ = some (.int .i64 k') := hx1.cell (by go_simp)
    have c1 : w1.cell? ⟨w.heap.size + 1, 1, none⟩ = some (.int .i64 n') := hx1.cell (by go_simp)
    have c2 : w1.cell? ⟨w.heap.size + 1, 2, none⟩ = some (.string s') := hx1.cell (by go_simp)
    clear hx1
    go_wp2_with fail
    refine (Validate_any k' n' s' _).mono ?_
    rintro e w2 ⟨rfl, hx2⟩
    have hE2 := hid (hE.out.trans hx2)
    clear hx2 c0 c1 c2
    go_wp2
    go_ret
    exact ⟨ret_int Fin.out.symm, hE2.out⟩
  · have e1 : (valE k n s != 0) = true := by simp [h]
    have Fin : Hid (bothE k n s k' n' s' = valE k n s) := by unfold Hid bothE; rw [if_pos h]
    clear h
    go_enter Tryd.func59, Tryd.ntmps59
    go_wp2_with fail
    refine (Validate_any k n s _).mono ?_
    rintro e w1 ⟨rfl, hx1⟩
    have hE := hid (hx0.out.trans hx1)
    clear hx1
    go_wp2
    go_ret
    exact ⟨ret_int Fin.out.symm, hE.out⟩
set_option maxRecDepth 100000 in
theorem died_any (why : Int) (w : World) : Calls Tryd.prog 106 #[.int .i64 why] w (Give (vR 0 0 ByteArray.empty why) w) := by
  go_enter Tryd.func106, Tryd.ntmps106
  go_wp2
  exact bodyPost_ret (v := .agg #[.int .i64 0, .int .i64 0, .string ByteArray.empty, .int .i64 why]) (by simp [results, Tryd.results106, go_sem]; rfl) rfl ⟨rfl, (Ext.refl w).alloc_right _⟩
end Go.Proofs.YtkjcfnmbnddhjaaDoor
