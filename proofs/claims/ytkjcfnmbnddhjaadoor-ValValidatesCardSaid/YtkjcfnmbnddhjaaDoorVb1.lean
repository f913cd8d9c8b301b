/-
  The reference's days; the law of dates.
-/
import Derived.Test.YtkjcfnmbnddhjaaDoorVa9
namespace Go.Proofs.YtkjcfnmbnddhjaaDoor
open Go.RowKit
set_option linter.unusedVariables false
set_option linter.unusedSimpArgs false
theorem rleap_eq (y : Int) : ((y % 4 == 0 && y % 100 != 0) || y % 400 == 0) = leapB y := by
  unfold leapB
  by_cases h4 : y % 4 = 0
  · simp [h4]
  · have h400 : ¬ y % 400 = 0 := by omega
    have b4 : (y % 4 == 0) = false := by simpa using h4
    have b400 : (y % 400 == 0) = false := by simpa using h400
    rw [b4, b400]
    rfl
theorem rleap_any (y : Int) (w : World) (h : 0 ≤ y) : Calls Tryd.prog 112 #[.int .i64 y] w fun e w' => e = .returned (.bool (leapB y)) ∧ w = w' := by
  rcases Bool.eq_false_or_eq_true (y % 4 == 0) with h1 | h1 <;> rcases Bool.eq_false_or_eq_true (y % 100 != 0) with h2 | h2 <;> rcases Bool.eq_false_or_eq_true (y % 400 == 0) with h3 | h3
  all_goals have Fin := hid (show leapB y = _ by rw [← rleap_eq, h1, h2, h3])
  all_goals go_enter Tryd.func112, Tryd.ntmps112
  all_goals go_wp2
  all_goals go_ret
  all_goals exact ⟨ret_bool (by rw [Fin.out]; rfl), rfl⟩
set_option maxRecDepth 100000 in
set_option maxHeartbeats 2000000 in
theorem rlength_any (y m : Int) (w : World) (h : 0 ≤ y) (h1 : 1 ≤ m) (h2 : m ≤ 12) : Calls Tryd.prog 71 #[.int .i64 y, .int .i64 m] w fun e w' => e = .returned (.int .i64 (mdS y m)) ∧ w = w' := by
  have hm : m = 2 ∨ m = 1 ∨ m = 3 ∨ m = 4 ∨ m = 5 ∨ m = 6 ∨ m = 7 ∨ m = 8 ∨ m = 9 ∨ m = 10 ∨ m = 11 ∨ m = 12 := by omega
  rcases hm with rfl | hm
  · rcases Bool.eq_false_or_eq_true (leapB y) with hl | hl
    · have Fin : Hid (mdS y 2 = 29) := by unfold Hid mdS; rw [if_pos rfl, leapN_t hl]; rfl
      go_enter Tryd.func71, Tryd.ntmps71
      go_wp2_with fail
      refine (rleap_any _ _ h).mono ?_
      rintro e w' ⟨rfl, rfl⟩
      go_wp2
      go_ret
      exact ⟨ret_int Fin.out.symm, rfl⟩
    · have Fin : Hid (mdS y 2 = 28) := by unfold Hid mdS; rw [if_pos rfl, leapN_f hl]; rfl
      go_enter Tryd.func71, Tryd.ntmps71
      go_wp2_with fail
      refine (rleap_any _ _ h).mono ?_
      rintro e w' ⟨rfl, rfl⟩
      go_wp2
      go_ret
      exact ⟨ret_int Fin.out.symm, rfl⟩
  · rcases hm with rfl | rfl | rfl | rfl | rfl | rfl | rfl | rfl | rfl | rfl | rfl
    all_goals
      go_enter Tryd.func71, Tryd.ntmps71
      go_wp2
      go_ret
      exact ⟨ret_int (by simp [mdS]), rfl⟩
set_option maxRecDepth 100000 in
set_option maxHeartbeats 4000000 in
theorem rDays_any (y m d : Int) (w : World) : Calls Tryd.prog 23 #[.int .i64 y, .int .i64 m, .int .i64 d] w fun e w' => e = .returned (.tuple #[.int .i64 (dayO y m d), .int .i64 (dayE y m d)]) ∧ w = w' := by
  by_cases h : 1 ≤ y ∧ y ≤ 9999 ∧ 1 ≤ m ∧ m ≤ 12 ∧ 1 ≤ d
  · obtain ⟨h1, h2, h3, h4, h5⟩ := h
    have a1 : decide (y < 1) = false := by simp; omega
    have a2 : decide (9999 < y) = false := by simp; omega
    have a3 : decide (m < 1) = false := by simp; omega
    have a4 : decide (12 < m) = false := by simp; omega
    have a5 : decide (d < 1) = false := by simp; omega
    by_cases h6 : d ≤ mdS y m
    · have Fin := hid (day_ok (y := y) (m := m) (d := d) ⟨h1, h2, h3, h4, h5, h6⟩)
      have a6 : decide (mdS y m < d) = false := by simp; omega
      have hd := md_in y m
      have hd31 : d ≤ 31 := by omega
      clear h6
      go_enter Tryd.func23, Tryd.ntmps23
      go_wp2_with fail
      refine (rlength_any y m _ (by omega) h3 h4).mono ?_
      rintro e w' ⟨rfl, rfl⟩
      go_wp2_with fail
      clear a6 hd
      go_loopw [8, 9] (fun n i wr => (∃ k : Nat, (k : Int) ≤ m - 1 ∧ i = .int .i64 ((k : Int) + 1) ∧ n = .int .i64 (d + cumS y k)) ∧ wr = w) (fun _ i _ => (m - intOf i).toNat)
      case atStart => exact ⟨⟨0, by omega, rfl, by simp [cumS]⟩, rfl⟩
      case round =>
        obtain ⟨⟨k, hk, rfl, rfl⟩, rfl⟩ := hrel
        have hc := cum_in y k
        by_cases hlt : (k : Int) + 1 < m
        · have t1 : decide ((k : Int) + 1 < m) = true := by simpa using hlt
          have hmd := md_in y ((k : Int) + 1)
          have hst : Hid (d + cumS y (k + 1) = d + cumS y k + mdS y ((k : Int) + 1)) := by unfold Hid; have e : cumS y (k + 1) = cumS y k + mdS y ((k : Int) + 1) := rfl; rw [e]; omega
          go_wp2_with fail
          refine (rlength_any y ((k : Int) + 1) _ (by omega) (by omega) (by omega)).mono ?_
          rintro e w' ⟨rfl, rfl⟩
          go_wp2
          go_roundw
          case rel => exact ⟨⟨k + 1, by omega, by go_num, by rw [hst.out]⟩, by trivial⟩
          case measure => simp [intOf]; omega
        · have t1 : decide ((k : Int) + 1 < m) = false := by simpa using hlt
          have e0 : (m - 1).toNat = k := by omega
          have Fin2 : Hid (d + cumS y k + 365 * (y - 1) + (y - 1) / 4 - (y - 1) / 100 + (y - 1) / 400 = dayO y m d) := by unfold Hid; rw [Fin.out.2, dayS, e0, ydS]; omega
          clear e0
          go_wp2
          go_ret2
          exact ⟨by rw [Fin.out.1, ← Fin2.out]; rfl, rfl⟩
    · have Fin := hid (day_no (y := y) (m := m) (d := d) (fun q => h6 q.2.2.2.2.2))
      have a6 : decide (mdS y m < d) = true := by simp; omega
      clear h6
      go_enter Tryd.func23, Tryd.ntmps23
      go_wp2_with fail
      refine (rlength_any y m _ (by omega) h3 h4).mono ?_
      rintro e w' ⟨rfl, rfl⟩
      go_wp2
      go_ret2
      exact ⟨by rw [Fin.out.1, Fin.out.2]; rfl, rfl⟩
  · have Fin := hid (day_no (y := y) (m := m) (d := d) (fun q => h ⟨q.1, q.2.1, q.2.2.1, q.2.2.2.1, q.2.2.2.2.1⟩))
    have hq : (decide (y < 1) || (decide (9999 < y) || (decide (m < 1) || (decide (12 < m) || decide (d < 1))))) = true := by
      rw [← Bool.not_eq_false]
      intro hh
      simp only [Bool.or_eq_false_iff, decide_eq_false_iff_not] at hh
      exact h (by omega)
    clear h
    rcases Bool.eq_false_or_eq_true (decide (y < 1)) with d1 | d1
    rotate_left
    rcases Bool.eq_false_or_eq_true (decide (9999 < y)) with d2 | d2
    rotate_left
    rcases Bool.eq_false_or_eq_true (decide (m < 1)) with d3 | d3
    rotate_left
    rcases Bool.eq_false_or_eq_true (decide (12 < m)) with d4 | d4
    rotate_left
    have d5 : decide (d < 1) = true := by simpa [d1, d2, d3, d4] using hq
    all_goals clear hq
    all_goals go_enter Tryd.func23, Tryd.ntmps23
    all_goals go_wp2
    all_goals go_ret2
    all_goals exact ⟨by rw [Fin.out.1, Fin.out.2]; rfl, rfl⟩
set_option maxRecDepth 100000 in
set_option maxHeartbeats 2000000 in
theorem dates_law (y m d : Int) (w : World) (hy : (Lit.int .i64 y).wf = true) (hm : (Lit.int .i64 m).wf = true) (hd : (Lit.int .i64 d).wf = true) : Calls Tryd.prog 5 #[.int .i64 y, .int .i64 m, .int .i64 d] w (Give (.bool true) w) := by
  clear hy hm hd
  by_cases h : okD y m d
  · obtain ⟨e0, e1⟩ := day_ok h
    have hs := hid (sp_day h rfl)
    have e1 := hid e1
    go_enter Tryd.func5, Tryd.ntmps5
    go_wp2_with fail
    refine (Days_any y m d _).mono ?_
    rintro e w1 ⟨rfl, hx1⟩
    go_wp2_with fail
    refine (rDays_any y m d _).mono ?_
    rintro e w' ⟨rfl, rfl⟩
    go_wp2_with fail
    refine (Split_any _ _).mono ?_
    rintro e w2 ⟨rfl, hx2⟩
    rw [hs.out.1, hs.out.2.1, hs.out.2.2.1, hs.out.2.2.2]
    go_wp2_with fail
    refine (known_any _).mono ?_
    rintro e w3 ⟨rfl, hx3⟩
    have hE := hid ((hx1.trans hx2).trans hx3)
    clear hx1 hx2 hx3
    go_wp2
    go_ret
    exact ⟨rfl, hE.out⟩
  · obtain ⟨e0, e1⟩ := day_no h
    clear h
    go_enter Tryd.func5, Tryd.ntmps5
    go_wp2_with fail
    refine (Days_any y m d _).mono ?_
    rintro e w1 ⟨rfl, hx1⟩
    go_wp2_with fail
    refine (rDays_any y m d _).mono ?_
    rintro e w' ⟨rfl, rfl⟩
    go_wp2_with fail
    refine (known_any _).mono ?_
    rintro e w3 ⟨rfl, hx3⟩
    have hE := hid (hx1.trans hx3)
    clear hx1 hx3
    go_wp2
    go_ret
    exact ⟨rfl, hE.out⟩
end Go.Proofs.YtkjcfnmbnddhjaaDoor
