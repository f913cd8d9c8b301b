/-
  Days, months and years: what the program's functions give.
-/
import Derived.Test.YtkjcfnmbnddhjaaDoorProg
import Derived.Test.YtkjcfnmbnddhjaaDoorVaP
namespace Go.Proofs.YtkjcfnmbnddhjaaDoor
open Go.RowKit
set_option linter.unusedVariables false
set_option linter.unusedSimpArgs false
theorem isLeap_any (y : Int) (w : World) (h : 0 ≤ y) : Calls Tryd.prog 111 #[.int .i64 y] w fun e w' => e = .returned (.bool (leapB y)) ∧ w = w' := by
  rcases Bool.eq_false_or_eq_true (y % 4 == 0) with h1 | h1 <;> rcases Bool.eq_false_or_eq_true (y % 100 != 0) with h2 | h2 <;> rcases Bool.eq_false_or_eq_true (y % 400 == 0) with h3 | h3
  all_goals have Fin := hid (show leapB y = _ by unfold leapB; rw [h1, h2, h3])
  all_goals go_enter Tryd.func111, Tryd.ntmps111
  all_goals go_wp2
  all_goals go_ret
  all_goals exact ⟨ret_bool (by rw [Fin.out]; rfl), rfl⟩
theorem leapN_t {y : Int} (h : leapB y = true) : leapN y = 1 := by unfold leapN; rw [if_pos h]
theorem leapN_f {y : Int} (h : leapB y = false) : leapN y = 0 := by unfold leapN; rw [if_neg (by rw [h]; simp)]
set_option maxRecDepth 100000 in
set_option maxHeartbeats 2000000 in
theorem monthDays_any (y m : Int) (w : World) (h : 0 ≤ y) (h1 : 1 ≤ m) (h2 : m ≤ 12) : Calls Tryd.prog 69 #[.int .i64 y, .int .i64 m] w (Give (.int .i64 (mdS y m)) w) := by
  have hm : m = 2 ∨ m = 1 ∨ m = 3 ∨ m = 4 ∨ m = 5 ∨ m = 6 ∨ m = 7 ∨ m = 8 ∨ m = 9 ∨ m = 10 ∨ m = 11 ∨ m = 12 := by omega
  rcases hm with rfl | hm
  · rcases Bool.eq_false_or_eq_true (leapB y) with hl | hl
    · have Fin : Hid (mdS y 2 = 29) := by unfold Hid mdS; rw [if_pos rfl, leapN_t hl]; rfl
      go_enter Tryd.func69, Tryd.ntmps69
      go_wp2_with fail
      refine (isLeap_any _ _ h).mono ?_
      rintro e w' ⟨rfl, rfl⟩
      go_wp2
      go_ret
      exact ⟨ret_int Fin.out.symm, (Ext.refl w).alloc_right _⟩
    · have Fin : Hid (mdS y 2 = 28) := by unfold Hid mdS; rw [if_pos rfl, leapN_f hl]; rfl
      go_enter Tryd.func69, Tryd.ntmps69
      go_wp2_with fail
      refine (isLeap_any _ _ h).mono ?_
      rintro e w' ⟨rfl, rfl⟩
      go_wp2
      go_ret
      exact ⟨ret_int Fin.out.symm, (Ext.refl w).alloc_right _⟩
  · rcases hm with rfl | rfl | rfl | rfl | rfl | rfl | rfl | rfl | rfl | rfl | rfl
    all_goals
      go_enter Tryd.func69, Tryd.ntmps69
      go_wp2
      go_ret
      exact ⟨ret_int (by simp [mdS]), (Ext.refl w).alloc_right _⟩
theorem yearsDays_any (y : Int) (w : World) (h1 : 1 ≤ y) (h2 : y ≤ 10001) : Calls Tryd.prog 70 #[.int .i64 y] w fun e w' => e = .returned (.int .i64 (ydS y)) ∧ w = w' := by
  have Fin : Hid (365 * (y - 1) + (y - 1) / 4 - (y - 1) / 100 + (y - 1) / 400 = ydS y) := rfl
  go_enter Tryd.func70, Tryd.ntmps70
  go_wp2
  go_ret
  exact ⟨ret_int Fin.out, rfl⟩
/-- What is wrong with a date. -/
def dayE (y m d : Int) : Int := if 1 ≤ y ∧ y ≤ 9999 ∧ 1 ≤ m ∧ m ≤ 12 ∧ 1 ≤ d ∧ d ≤ mdS y m then 0 else 1
def dayO (y m d : Int) : Int := if 1 ≤ y ∧ y ≤ 9999 ∧ 1 ≤ m ∧ m ≤ 12 ∧ 1 ≤ d ∧ d ≤ mdS y m then dayS y m d else 0
theorem day_ok {y m d : Int} (h : okD y m d) : dayE y m d = 0 ∧ dayO y m d = dayS y m d := by unfold dayE dayO; exact ⟨if_pos h, if_pos h⟩
theorem day_no {y m d : Int} (h : ¬ okD y m d) : dayE y m d = 1 ∧ dayO y m d = 0 := by unfold dayE dayO; exact ⟨if_neg h, if_neg h⟩
def Give2 (x y : Int) (w : World) (e : Ending) (w' : World) : Prop := e = .returned (.tuple #[.int .i64 x, .int .i64 y]) ∧ Ext w w'
theorem cum_in (y : Int) (k : Nat) : 0 ≤ cumS y k ∧ cumS y k ≤ 31 * k := by
  induction k with
  | zero => simp [cumS]
  | succ k ih =>
    have := md_in y ((k : Int) + 1)
    have e : cumS y (k + 1) = cumS y k + mdS y ((k : Int) + 1) := rfl
    rw [e]
    omega
theorem yd_in {y : Int} (h1 : 1 ≤ y) (h2 : y ≤ 10000) : 0 ≤ ydS y ∧ ydS y ≤ 3652059 := by
  have b := yd_mono h1
  have c := yd_mono h2
  rw [yd_1] at b
  rw [yd_10000] at c
  omega
set_option maxRecDepth 100000 in
set_option maxHeartbeats 4000000 in
theorem Days_any (y m d : Int) (w : World) : Calls Tryd.prog 22 #[.int .i64 y, .int .i64 m, .int .i64 d] w (Give2 (dayO y m d) (dayE y m d) w) := by
  by_cases h : 1 ≤ y ∧ y ≤ 9999 ∧ 1 ≤ m ∧ m ≤ 12 ∧ 1 ≤ d
  · obtain ⟨h1, h2, h3, h4, h5⟩ := h
    have a1 : decide (y < 1) = false := by simp; omega
    have a2 : decide (9999 < y) = false := by simp; omega
    have a3 : decide (m < 1) = false := by simp; omega
    have a4 : decide (12 < m) = false := by simp; omega
    have a5 : decide (d < 1) = false := by simp; omega
    by_cases h6 : d ≤ mdS y m
    · have Fin := hid (day_ok (y := y) (m := m) (d := d) ⟨h1, h2, h3, h4, h5, h6⟩)
      have a6 : decide (mdS y m < d) = false := by simp; omega
      have hd := md_in y m
      have hy := yd_in h1 (by omega)
      have hd31 : d ≤ 31 := by omega
      clear h6
      go_enter Tryd.func22, Tryd.ntmps22
      go_wp2_with fail
      refine (monthDays_any y m _ (by omega) h3 h4).mono ?_
      rintro e w1 ⟨rfl, hx1⟩
      have hx1 := hid hx1
      go_wp2_with fail
      refine (yearsDays_any y _ h1 (by omega)).mono ?_
      rintro e w' ⟨rfl, rfl⟩
      clear a6 hd
      go_wp2_with fail
      go_loopw [8, 41] (fun n i wr => ∃ k : Nat, (k : Int) ≤ m - 1 ∧ i = .int .i64 k ∧ n = .int .i64 (ydS y + d + cumS y k) ∧ Hid (Ext w wr)) (fun _ i _ => (m - 1 - intOf i).toNat)
      case atStart => exact ⟨0, by omega, rfl, by simp [cumS], hx1⟩
      case round =>
        obtain ⟨k, hk, rfl, rfl, hx⟩ := hrel
        have hc := cum_in y k
        by_cases hlt : (k : Int) < m - 1
        · have t1 : decide ((k : Int) < m - 1) = true := by simpa using hlt
          have hmd := md_in y ((k : Int) + 1)
          have hst : Hid (ydS y + d + cumS y (k + 1) = ydS y + d + cumS y k + mdS y ((k : Int) + 1)) := by unfold Hid; have e : cumS y (k + 1) = cumS y k + mdS y ((k : Int) + 1) := rfl; rw [e]; omega
          go_wp2_with fail
          refine (monthDays_any y ((k : Int) + 1) _ (by omega) (by omega) (by omega)).mono ?_
          rintro e w2 ⟨rfl, hx2⟩
          have hx3 := hid (hx.out.trans hx2)
          clear hx2
          go_wp2
          go_roundw
          case rel => exact ⟨k + 1, by omega, by go_num, by rw [hst.out], hx3⟩
          case measure => simp [intOf]; omega
        · have t1 : decide ((k : Int) < m - 1) = false := by simpa using hlt
          have e0 : (m - 1).toNat = k := by omega
          have Fin2 : Hid (ydS y + d + cumS y k = dayO y m d) := by unfold Hid; rw [Fin.out.2, dayS, e0]; omega
          clear e0
          go_wp2
          go_ret2
          exact ⟨by rw [Fin.out.1, ← Fin2.out]; rfl, hx.out⟩
    · have Fin := hid (day_no (y := y) (m := m) (d := d) (fun q => h6 q.2.2.2.2.2))
      have a6 : decide (mdS y m < d) = true := by simp; omega
      clear h6
      go_enter Tryd.func22, Tryd.ntmps22
      go_wp2_with fail
      refine (monthDays_any y m _ (by omega) h3 h4).mono ?_
      rintro e w1 ⟨rfl, hx1⟩
      go_wp2
      go_ret2
      exact ⟨by rw [Fin.out.1, Fin.out.2]; rfl, hx1⟩
  · have Fin := hid (day_no (y := y) (m := m) (d := d) (fun q => h ⟨q.1, q.2.1, q.2.2.1, q.2.2.2.1, q.2.2.2.2.1⟩))
    have hq : (decide (y < 1) || (decide (9999 < y) || (decide (m < 1) || (decide (12 < m) || decide (d < 1))))) = true := by
      rw [← Bool.not_eq_false]
      intro hh
      simp only [Bool.or_eq_false_iff, decide_eq_false_iff_not] at hh
      exact h (by omega)
    clear h
    rcases Bool.eq_false_or_eq_true (decide (y < 1)) with d1 | d1
    · clear hq
      go_enter Tryd.func22, Tryd.ntmps22
      go_wp2
      go_ret2
      exact ⟨by rw [Fin.out.1, Fin.out.2]; rfl, Ext.refl _⟩
    rcases Bool.eq_false_or_eq_true (decide (9999 < y)) with d2 | d2
    · clear hq
      go_enter Tryd.func22, Tryd.ntmps22
      go_wp2
      go_ret2
      exact ⟨by rw [Fin.out.1, Fin.out.2]; rfl, Ext.refl _⟩
    rcases Bool.eq_false_or_eq_true (decide (m < 1)) with d3 | d3
    · clear hq
      go_enter Tryd.func22, Tryd.ntmps22
      go_wp2
      go_ret2
      exact ⟨by rw [Fin.out.1, Fin.out.2]; rfl, Ext.refl _⟩
    rcases Bool.eq_false_or_eq_true (decide (12 < m)) with d4 | d4
    · clear hq
      go_enter Tryd.func22, Tryd.ntmps22
      go_wp2
      go_ret2
      exact ⟨by rw [Fin.out.1, Fin.out.2]; rfl, Ext.refl _⟩
    have d5 : decide (d < 1) = true := by simpa [d1, d2, d3, d4] using hq
    clear hq
    go_enter Tryd.func22, Tryd.ntmps22
    go_wp2
    go_ret2
    exact ⟨by rw [Fin.out.1, Fin.out.2]; rfl, Ext.refl _⟩
end Go.Proofs.YtkjcfnmbnddhjaaDoor
