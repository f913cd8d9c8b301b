/-
  The day so many months later, the reference; the law of days.
-/
import Derived.Test.YtkjcfnmbnddhjaaDoorVf1
namespace Go.Proofs.YtkjcfnmbnddhjaaDoor
open Go.RowKit
set_option linter.unusedVariables false
set_option linter.unusedSimpArgs false
set_option maxRecDepth 100000 in
set_option maxHeartbeats 4000000 in
theorem rMonths_any (day n : Int) (w : World) : Calls Tryd.prog 41 #[.int .i64 day, .int .i64 n] w fun e w' => e = .returned (.tuple #[.int .i64 (mthO day n), .int .i64 (mthE day n)]) ∧ w = w' := by
  rcases Bool.eq_false_or_eq_true (isDayB day) with hd | hd
  · by_cases h0 : day = 0
    · subst h0
      have Fin : Hid (mthO 0 n = 0 ∧ mthE 0 n = 0) := by unfold Hid mthO mthE; rw [hd]; simp
      have hz := sp_zero.2.2.2
      go_enter Tryd.func41, Tryd.ntmps41
      go_wp2_with fail
      refine (rSplit_any 0 _).mono ?_
      rintro e w1 ⟨rfl, rfl⟩
      go_wp2
      go_ret2
      exact ⟨by rw [Fin.out.1, Fin.out.2]; rfl, rfl⟩
    · have d0 : (day == 0) = false := by simpa using h0
      obtain ⟨hk, -, hz⟩ := sp_ok hd h0
      obtain ⟨k1, k2, k3, k4, k5, k6⟩ := hk
      have hmd := md_in (spY day) (spM day)
      have hsp := hid (fun w => (show Calls Tryd.prog 35 #[.int .i64 day] w (Same4 (spY day) (spM day) (spD day) 0 w) by have h := rSplit_any day w; rwa [hz] at h))
      have k7 : spD day ≤ 31 := by omega
      have hO : Hid (mthO day n = if n < -200000 ∨ 200000 < n then 0 else if 12 * spY day + spM day - 1 + n < 12 ∨ 9999 < (12 * spY day + spM day - 1 + n) / 12 then 0 else dayO ((12 * spY day + spM day - 1 + n) / 12) ((12 * spY day + spM day - 1 + n) % 12 + 1) (min (spD day) (mdS ((12 * spY day + spM day - 1 + n) / 12) ((12 * spY day + spM day - 1 + n) % 12 + 1)))) := by unfold Hid mthO mthK; rw [if_neg (by rw [hd]; simp [h0])]
      have hE : Hid (mthE day n = if n < -200000 ∨ 200000 < n then 1 else if 12 * spY day + spM day - 1 + n < 12 ∨ 9999 < (12 * spY day + spM day - 1 + n) / 12 then 1 else dayE ((12 * spY day + spM day - 1 + n) / 12) ((12 * spY day + spM day - 1 + n) % 12 + 1) (min (spD day) (mdS ((12 * spY day + spM day - 1 + n) / 12) ((12 * spY day + spM day - 1 + n) % 12 + 1)))) := by unfold Hid mthE mthK; rw [if_neg (by rw [hd]; simp), if_neg h0]
      clear hmd k6 hz
      generalize spY day = Y at *
      generalize spM day = M at *
      generalize spD day = D at *
      generalize mthO day n = O at *
      generalize mthE day n = E at *
      clear h0 hd
      by_cases q1 : n < -200000
      · have d1 : decide (n < -200000) = true := by simpa using q1
        have Fin : Hid (O = 0 ∧ E = 1) := by unfold Hid; rw [hO.out, hE.out]; simp [q1]
        go_enter Tryd.func41, Tryd.ntmps41
        go_wp2_with fail
        refine (hsp.out _).mono ?_
        rintro e w1 ⟨rfl, rfl⟩
        go_wp2
        go_ret2
        exact ⟨by rw [Fin.out.1, Fin.out.2]; rfl, rfl⟩
      · have d1 : decide (n < -200000) = false := by simpa using q1
        by_cases q2 : 200000 < n
        · have d2 : decide (200000 < n) = true := by simpa using q2
          have Fin : Hid (O = 0 ∧ E = 1) := by unfold Hid; rw [hO.out, hE.out]; simp [q2]
          go_enter Tryd.func41, Tryd.ntmps41
          go_wp2_with fail
          refine (hsp.out _).mono ?_
          rintro e w1 ⟨rfl, rfl⟩
          go_wp2
          go_ret2
          exact ⟨by rw [Fin.out.1, Fin.out.2]; rfl, rfl⟩
        · have d2 : decide (200000 < n) = false := by simpa using q2
          have q12 : ¬ (n < -200000 ∨ 200000 < n) := by omega
          by_cases q3 : 12 * Y + M - 1 + n < 12
          · have d3 : decide (12 * Y + M - 1 + n < 12) = true := by simpa using q3
            have Fin : Hid (O = 0 ∧ E = 1) := by unfold Hid; rw [hO.out, hE.out, if_neg q12, if_pos (Or.inl q3), if_neg q12, if_pos (Or.inl q3)]; exact ⟨rfl, rfl⟩
            clear q12
            go_enter Tryd.func41, Tryd.ntmps41
            go_wp2_with fail
            refine (hsp.out _).mono ?_
            rintro e w1 ⟨rfl, rfl⟩
            go_wp2
            go_ret2
            exact ⟨by rw [Fin.out.1, Fin.out.2]; rfl, rfl⟩
          · have d3 : decide (12 * Y + M - 1 + n < 12) = false := by simpa using q3
            by_cases q4 : 9999 < (12 * Y + M - 1 + n) / 12
            · have d4 : decide (120000 ≤ 12 * Y + M - 1 + n) = true := by simp; omega
              have Fin : Hid (O = 0 ∧ E = 1) := by unfold Hid; rw [hO.out, hE.out, if_neg q12, if_pos (Or.inr q4), if_neg q12, if_pos (Or.inr q4)]; exact ⟨rfl, rfl⟩
              clear q12
              go_enter Tryd.func41, Tryd.ntmps41
              go_wp2_with fail
              refine (hsp.out _).mono ?_
              rintro e w1 ⟨rfl, rfl⟩
              go_wp2
              go_ret2
              exact ⟨by rw [Fin.out.1, Fin.out.2]; rfl, rfl⟩
            · have d4 : decide (120000 ≤ 12 * Y + M - 1 + n) = false := by simp; omega
              have q34 : ¬ (12 * Y + M - 1 + n < 12 ∨ 9999 < (12 * Y + M - 1 + n) / 12) := by omega
              have Fin : Hid (O = dayO ((12 * Y + M - 1 + n) / 12) ((12 * Y + M - 1 + n) % 12 + 1) (min D (mdS ((12 * Y + M - 1 + n) / 12) ((12 * Y + M - 1 + n) % 12 + 1))) ∧ E = dayE ((12 * Y + M - 1 + n) / 12) ((12 * Y + M - 1 + n) % 12 + 1) (min D (mdS ((12 * Y + M - 1 + n) / 12) ((12 * Y + M - 1 + n) % 12 + 1)))) := by
                unfold Hid
                rw [hO.out, hE.out, if_neg q12, if_neg q34, if_neg q12, if_neg q34]
                exact ⟨rfl, rfl⟩
              clear q12 q34
              go_enter Tryd.func41, Tryd.ntmps41
              go_wp2_with fail
              refine (hsp.out _).mono ?_
              rintro e w1 ⟨rfl, rfl⟩
              go_wp2_with fail
              refine (rlength_any ((12 * Y + M - 1 + n) / 12) ((12 * Y + M - 1 + n) % 12 + 1) _ (by omega) (by omega) (by omega)).mono ?_
              rintro e w2 ⟨rfl, rfl⟩
              go_wp2_with fail
              all_goals refine (rDays_any _ _ _ _).mono ?_
              all_goals rintro e w3 ⟨rfl, rfl⟩
              all_goals go_wp2
              all_goals go_ret2
              all_goals exact ⟨by rw [Fin.out.1, Fin.out.2]; rfl, rfl⟩
  · have hz := (sp_no hd).2.2.2
    have Fin : Hid (mthO day n = 0 ∧ mthE day n = 1) := by unfold Hid mthO mthE; rw [hd]; simp
    go_enter Tryd.func41, Tryd.ntmps41
    go_wp2_with fail
    refine (rSplit_any day _).mono ?_
    rintro e w1 ⟨rfl, rfl⟩
    go_wp2
    go_ret2
    exact ⟨by rw [Fin.out.1, Fin.out.2]; rfl, rfl⟩
set_option maxRecDepth 100000 in
set_option maxHeartbeats 4000000 in
theorem days_law (day n : Int) (w : World) (_ : (Lit.int .i64 day).wf = true) (_ : (Lit.int .i64 n).wf = true) : Calls Tryd.prog 10 #[.int .i64 day, .int .i64 n] w (Give (.bool true) w) := by
  have c1 := hid (fun w => Split_any day w)
  have c2 := hid (fun w => rSplit_any day w)
  have c3 := hid (fun w => Weekday_any day w)
  have c4 := hid (fun w => rWeekday_any day w)
  have c5 := hid (fun w => Stamp_any day w)
  have c6 := hid (fun w => rStamp_any day w)
  have c7 := hid (fun w => Months_any day n w)
  have c8 := hid (fun w => rMonths_any day n w)
  generalize spY day = y at *
  generalize spM day = m at *
  generalize spD day = d at *
  generalize spE day = x at *
  generalize wdO day = k at *
  generalize stS day = S at *
  generalize mthO day n = O at *
  generalize mthE day n = E at *
  go_enter Tryd.func10, Tryd.ntmps10
  go_wp2_with fail
  refine (c1.out _).mono ?_
  rintro e w1 ⟨rfl, hx1⟩
  go_wp2_with fail
  refine (c2.out _).mono ?_
  rintro e w' ⟨rfl, rfl⟩
  go_wp2_with fail
  refine (c3.out _).mono ?_
  rintro e w' ⟨rfl, rfl⟩
  go_wp2_with fail
  refine (c4.out _).mono ?_
  rintro e w' ⟨rfl, rfl⟩
  go_wp2_with fail
  refine (c5.out _).mono ?_
  rintro e w2 ⟨rfl, hx2⟩
  go_wp2_with fail
  refine (c6.out _).mono ?_
  rintro e w' ⟨rfl, rfl⟩
  go_wp2_with fail
  refine (c7.out _).mono ?_
  rintro e w3 ⟨rfl, hx3⟩
  go_wp2_with fail
  refine (c8.out _).mono ?_
  rintro e w' ⟨rfl, rfl⟩
  go_wp2_with fail
  refine (known_any _).mono ?_
  rintro e w4 ⟨rfl, hx4⟩
  go_wp2
  go_ret
  exact ⟨rfl, ((hx1.trans hx2).trans hx3).trans hx4⟩
end Go.Proofs.YtkjcfnmbnddhjaaDoor
