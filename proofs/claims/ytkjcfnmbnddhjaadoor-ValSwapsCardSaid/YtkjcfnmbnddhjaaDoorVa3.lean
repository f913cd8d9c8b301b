/-
  Each day has a date; the day so many months later.
-/
import Derived.Test.YtkjcfnmbnddhjaaDoorVa2
namespace Go.Proofs.YtkjcfnmbnddhjaaDoor
open Go.RowKit
set_option linter.unusedVariables false
set_option linter.unusedSimpArgs false
theorem year_of (n : Int) (h1 : 1 ≤ n) : ∀ k : Nat, n ≤ ydS ((k : Int) + 1) → ∃ y : Int, 1 ≤ y ∧ y ≤ k ∧ ydS y < n ∧ n ≤ ydS (y + 1)
  | 0, h => by
    have := yd_1
    rw [show ((0 : Nat) : Int) + 1 = 1 from rfl, this] at h
    omega
  | k + 1, h => by
    by_cases hk : n ≤ ydS ((k : Int) + 1)
    · obtain ⟨y, a, b, c, d⟩ := year_of n h1 k hk
      exact ⟨y, a, by omega, c, d⟩
    · refine ⟨(k : Int) + 1, by omega, by omega, by omega, ?_⟩
      exact h
theorem month_of (y r : Int) (h1 : 1 ≤ r) : ∀ k : Nat, r ≤ cumS y k → ∃ j : Nat, j < k ∧ cumS y j < r ∧ r ≤ cumS y (j + 1)
  | 0, h => by
    have : cumS y 0 = 0 := rfl
    omega
  | k + 1, h => by
    by_cases hk : r ≤ cumS y k
    · obtain ⟨j, a, b, c⟩ := month_of y r h1 k hk
      exact ⟨j, by omega, b, c⟩
    · exact ⟨k, by omega, by omega, h⟩
theorem date_of {n : Int} (h1 : 1 ≤ n) (h2 : n ≤ 3652059) : ∃ y m d, okD y m d ∧ dayS y m d = n := by
  obtain ⟨y, a, b, c, d⟩ := year_of n h1 9999 (by have := yd_10000; rw [show ((9999 : Nat) : Int) + 1 = 10000 from rfl, this]; exact h2)
  rw [cum_12s y a] at d
  obtain ⟨j, e, f, g⟩ := month_of y (n - ydS y) (by omega) 12 (by omega)
  have hc : cumS y (j + 1) = cumS y j + mdS y ((j : Int) + 1) := rfl
  refine ⟨y, (j : Int) + 1, n - ydS y - cumS y j, ⟨a, by omega, by omega, by omega, by omega, by omega⟩, ?_⟩
  unfold dayS
  rw [show ((j : Int) + 1 - 1).toNat = j by omega]
  omega
theorem sp_ok {n : Int} (h : isDayB n = true) (h0 : n ≠ 0) : okD (spY n) (spM n) (spD n) ∧ dayS (spY n) (spM n) (spD n) = n ∧ spE n = 0 := by
  have hn := isDay_iff.1 h
  obtain ⟨y, m, d, hk, he⟩ := date_of (n := n) (by omega) hn.2
  obtain ⟨a, b, c, e⟩ := sp_day hk he
  rw [a, b, c]
  exact ⟨hk, he, e⟩
noncomputable def mthK (day n : Int) : Int := 12 * spY day + spM day - 1 + n
noncomputable def mthO (day n : Int) : Int :=
  if isDayB day = false ∨ day = 0 then 0 else if n < -200000 ∨ 200000 < n then 0 else if mthK day n < 12 ∨ 9999 < mthK day n / 12 then 0
  else dayO (mthK day n / 12) (mthK day n % 12 + 1) (min (spD day) (mdS (mthK day n / 12) (mthK day n % 12 + 1)))
noncomputable def mthE (day n : Int) : Int :=
  if isDayB day = false then 1 else if day = 0 then 0 else if n < -200000 ∨ 200000 < n then 1 else if mthK day n < 12 ∨ 9999 < mthK day n / 12 then 1
  else dayE (mthK day n / 12) (mthK day n % 12 + 1) (min (spD day) (mdS (mthK day n / 12) (mthK day n % 12 + 1)))
set_option maxRecDepth 100000 in
set_option maxHeartbeats 4000000 in
theorem Months_any (day n : Int) (w : World) : Calls Tryd.prog 40 #[.int .i64 day, .int .i64 n] w (Give2 (mthO day n) (mthE day n) w) := by
  rcases Bool.eq_false_or_eq_true (isDayB day) with hd | hd
  · by_cases h0 : day = 0
    · subst h0
      have Fin : Hid (mthO 0 n = 0 ∧ mthE 0 n = 0) := by unfold Hid mthO mthE; rw [hd]; simp
      have hz := sp_zero.2.2.2
      go_enter Tryd.func40, Tryd.ntmps40
      go_wp2_with fail
      refine (Split_any 0 _).mono ?_
      rintro e w1 ⟨rfl, hx1⟩
      go_wp2
      go_ret2
      exact ⟨by rw [Fin.out.1, Fin.out.2]; rfl, hx1⟩
    · have d0 : (day == 0) = false := by simpa using h0
      obtain ⟨hk, -, hz⟩ := sp_ok hd h0
      obtain ⟨k1, k2, k3, k4, k5, k6⟩ := hk
      have hmd := md_in (spY day) (spM day)
      have hsp := hid (fun w => (show Calls Tryd.prog 24 #[.int .i64 day] w (Give4 (spY day) (spM day) (spD day) 0 w) by have h := Split_any day w; rwa [hz] at h))
      have k7 : spD day ≤ 31 := by omega
      have hO : Hid (mthO day n = if n < -200000 ∨ 200000 < n then 0 else if 12 * spY day + spM day - 1 + n < 12 ∨ 9999 < (12 * spY day + spM day - 1 + n) / 12 then 0 else dayO ((12 * spY day + spM day - 1 + n) / 12) ((12 * spY day + spM day - 1 + n) % 12 + 1) (min (spD day) (mdS ((12 * spY day + spM day - 1 + n) / 12) ((12 * spY day + spM day - 1 + n) % 12 + 1)))) := by unfold Hid mthO mthK; rw [if_neg (by rw [hd]; simp [h0])]
      have hE : Hid (mthE day n = if n < -200000 ∨ 200000 < n then 1 else if 12 * spY day + spM day - 1 + n < 12 ∨ 9999 < (12 * spY day + spM day - 1 + n) / 12 then 1 else dayE ((12 * spY day + spM day - 1 + n) / 12) ((12 * spY day + spM day - 1 + n) % 12 + 1) (min (spD day) (mdS ((12 * spY day + spM day - 1 + n) / 12) ((12 * spY day + spM day - 1 + n) % 12 + 1)))) := by unfold Hid mthE mthK; rw [if_neg (by rw [hd]; simp), if_neg h0]
      clear hmd k6 hz
      generalize spY day = Y at *
      generalize spM day = M at *
      generalize spD day = D at *
      generalize mthO day n = O at *
      generalize mthE day n = E at *
      clear h0 hd
      by_cases q1 : n < -200000
      · have d1 : decide (n < -200000) = true := by simpa using q1
        have Fin : Hid (O = 0 ∧ E = 1) := by unfold Hid; rw [hO.out, hE.out]; simp [q1]
        go_enter Tryd.func40, Tryd.ntmps40
        go_wp2_with fail
        refine (hsp.out _).mono ?_
        rintro e w1 ⟨rfl, hx1⟩
        go_wp2
        go_ret2
        exact ⟨by rw [Fin.out.1, Fin.out.2]; rfl, hx1⟩
      · have d1 : decide (n < -200000) = false := by simpa using q1
        by_cases q2 : 200000 < n
        · have d2 : decide (200000 < n) = true := by simpa using q2
          have Fin : Hid (O = 0 ∧ E = 1) := by unfold Hid; rw [hO.out, hE.out]; simp [q2]
          go_enter Tryd.func40, Tryd.ntmps40
          go_wp2_with fail
          refine (hsp.out _).mono ?_
          rintro e w1 ⟨rfl, hx1⟩
          go_wp2
          go_ret2
          exact ⟨by rw [Fin.out.1, Fin.out.2]; rfl, hx1⟩
        · have d2 : decide (200000 < n) = false := by simpa using q2
          have q12 : ¬ (n < -200000 ∨ 200000 < n) := by omega
          by_cases q3 : 12 * Y + M - 1 + n < 12
          · have d3 : decide (12 * Y + M - 1 + n < 12) = true := by simpa using q3
            have Fin : Hid (O = 0 ∧ E = 1) := by unfold Hid; rw [hO.out, hE.out, if_neg q12, if_pos (Or.inl q3), if_neg q12, if_pos (Or.inl q3)]; exact ⟨rfl, rfl⟩
            clear q12
            go_enter Tryd.func40, Tryd.ntmps40
            go_wp2_with fail
            refine (hsp.out _).mono ?_
            rintro e w1 ⟨rfl, hx1⟩
            go_wp2
            go_ret2
            exact ⟨by rw [Fin.out.1, Fin.out.2]; rfl, hx1⟩
          · have d3 : decide (12 * Y + M - 1 + n < 12) = false := by simpa using q3
            by_cases q4 : 9999 < (12 * Y + M - 1 + n) / 12
            · have d4 : decide (9999 < (12 * Y + M - 1 + n) / 12) = true := by simpa using q4
              have Fin : Hid (O = 0 ∧ E = 1) := by unfold Hid; rw [hO.out, hE.out, if_neg q12, if_pos (Or.inr q4), if_neg q12, if_pos (Or.inr q4)]; exact ⟨rfl, rfl⟩
              clear q12
              go_enter Tryd.func40, Tryd.ntmps40
              go_wp2_with fail
              refine (hsp.out _).mono ?_
              rintro e w1 ⟨rfl, hx1⟩
              go_wp2
              go_ret2
              exact ⟨by rw [Fin.out.1, Fin.out.2]; rfl, hx1⟩
            · have d4 : decide (9999 < (12 * Y + M - 1 + n) / 12) = false := by simpa using q4
              have q34 : ¬ (12 * Y + M - 1 + n < 12 ∨ 9999 < (12 * Y + M - 1 + n) / 12) := by omega
              have Fin : Hid (O = dayO ((12 * Y + M - 1 + n) / 12) ((12 * Y + M - 1 + n) % 12 + 1) (min D (mdS ((12 * Y + M - 1 + n) / 12) ((12 * Y + M - 1 + n) % 12 + 1))) ∧ E = dayE ((12 * Y + M - 1 + n) / 12) ((12 * Y + M - 1 + n) % 12 + 1) (min D (mdS ((12 * Y + M - 1 + n) / 12) ((12 * Y + M - 1 + n) % 12 + 1)))) := by
                unfold Hid
                rw [hO.out, hE.out, if_neg q12, if_neg q34, if_neg q12, if_neg q34]
                exact ⟨rfl, rfl⟩
              clear q12 q34
              go_enter Tryd.func40, Tryd.ntmps40
              go_wp2_with fail
              refine (hsp.out _).mono ?_
              rintro e w1 ⟨rfl, hx1⟩
              have hx1 := hid hx1
              go_wp2_with fail
              refine (monthDays_any ((12 * Y + M - 1 + n) / 12) ((12 * Y + M - 1 + n) % 12 + 1) _ (by omega) (by omega) (by omega)).mono ?_
              rintro e w2 ⟨rfl, hx2⟩
              have hx2 := hid (Ext.trans hx1.out hx2)
              go_wp2_with fail
              all_goals refine (Days_any _ _ _ _).mono ?_
              all_goals rintro e w3 ⟨rfl, hx3⟩
              all_goals have hx3 := hid (Ext.trans hx2.out hx3)
              all_goals have hm : Hid (min D (mdS ((12 * Y + M - 1 + n) / 12) ((12 * Y + M - 1 + n) % 12 + 1)) = D) ∨ Hid (min D (mdS ((12 * Y + M - 1 + n) / 12) ((12 * Y + M - 1 + n) % 12 + 1)) = (mdS ((12 * Y + M - 1 + n) / 12) ((12 * Y + M - 1 + n) % 12 + 1))) := by unfold Hid; omega
              all_goals (first | (have hm1 : Hid (min D (mdS ((12 * Y + M - 1 + n) / 12) ((12 * Y + M - 1 + n) % 12 + 1)) = D) := by (unfold Hid; omega)) | (have hm1 : Hid (min D (mdS ((12 * Y + M - 1 + n) / 12) ((12 * Y + M - 1 + n) % 12 + 1)) = (mdS ((12 * Y + M - 1 + n) / 12) ((12 * Y + M - 1 + n) % 12 + 1))) := by (unfold Hid; omega)))
              all_goals clear hm
              all_goals go_wp2
              all_goals go_ret2
              all_goals exact ⟨by rw [Fin.out.1, Fin.out.2, hm1.out]; rfl, hx3.out⟩
  · have hz := (sp_no hd).2.2.2
    have Fin : Hid (mthO day n = 0 ∧ mthE day n = 1) := by unfold Hid mthO mthE; rw [hd]; simp
    go_enter Tryd.func40, Tryd.ntmps40
    go_wp2_with fail
    refine (Split_any day _).mono ?_
    rintro e w1 ⟨rfl, hx1⟩
    go_wp2
    go_ret2
    exact ⟨by rw [Fin.out.1, Fin.out.2]; rfl, hx1⟩
end Go.Proofs.YtkjcfnmbnddhjaaDoor
