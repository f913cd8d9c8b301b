/-
  The date of a day, its weekday, and the day so many months later.
-/
import Derived.Test.YtkjcfnmbnddhjaaDoorVa1
namespace Go.Proofs.YtkjcfnmbnddhjaaDoor
open Go.RowKit
set_option linter.unusedVariables false
set_option linter.unusedSimpArgs false
theorem results_tmp4 {fn : Func} {t u v x : Tmp} (h : fn.results = #[.tmp t, .tmp u, .tmp v, .tmp x]) (tmps : Array Value) (P : Program) (w : World) :
    (results fn tmps).run P w = .ok (.tuple #[tmps.getD t undef, tmps.getD u undef, tmps.getD v undef, tmps.getD x undef]) w := by
  simp [results, h]
def isDayB (n : Int) : Bool := decide (0 ≤ n) && decide (n ≤ 3652059)
theorem isDay_any (n : Int) (w : World) : Calls Tryd.prog 72 #[.int .i64 n] w fun e w' => e = .returned (.bool (isDayB n)) ∧ w = w' := by
  rcases Bool.eq_false_or_eq_true (decide (0 ≤ n)) with h1 | h1 <;> rcases Bool.eq_false_or_eq_true (decide (n ≤ 3652059)) with h2 | h2
  all_goals have Fin := hid (show isDayB n = _ by unfold isDayB; rw [h1, h2])
  all_goals go_enter Tryd.func72, Tryd.ntmps72
  all_goals go_wp2
  all_goals go_ret
  all_goals exact ⟨ret_bool (by rw [Fin.out]; rfl), rfl⟩
def Give4 (a b c d : Int) (w : World) (e : Ending) (w' : World) : Prop := e = .returned (.tuple #[.int .i64 a, .int .i64 b, .int .i64 c, .int .i64 d]) ∧ Ext w w'
/-- The date of a day that there is. -/
noncomputable def spY (n : Int) : Int := if isDayB n then (if n = 0 then 0 else (dateS n).1) else 0
noncomputable def spM (n : Int) : Int := if isDayB n then (if n = 0 then 0 else (dateS n).2.1) else 0
noncomputable def spD (n : Int) : Int := if isDayB n then (if n = 0 then 0 else (dateS n).2.2) else 0
def spE (n : Int) : Int := if isDayB n then 0 else 1
theorem sp_no {n : Int} (h : isDayB n = false) : spY n = 0 ∧ spM n = 0 ∧ spD n = 0 ∧ spE n = 1 := by unfold spY spM spD spE; rw [h]; simp
theorem sp_zero : spY 0 = 0 ∧ spM 0 = 0 ∧ spD 0 = 0 ∧ spE 0 = 0 := by unfold spY spM spD spE; simp; decide
theorem isDay_iff {n : Int} : isDayB n = true ↔ 0 ≤ n ∧ n ≤ 3652059 := by unfold isDayB; simp
theorem sp_day {y m d n : Int} (h : okD y m d) (e : dayS y m d = n) : spY n = y ∧ spM n = m ∧ spD n = d ∧ spE n = 0 := by
  have hi := day_in h
  have hb : isDayB n = true := isDay_iff.2 (by omega)
  have hd := date_eq h e
  unfold spY spM spD spE
  rw [hb, hd]
  rw [if_pos rfl, if_pos rfl, if_pos rfl, if_pos rfl, if_neg (by omega), if_neg (by omega), if_neg (by omega)]
  exact ⟨rfl, rfl, rfl, rfl⟩
theorem cum_12s (y : Int) (h : 1 ≤ y) : ydS (y + 1) = ydS y + cumS y 12 := by rw [cum_12, leap_succ y h]; omega
set_option maxRecDepth 100000 in
set_option maxHeartbeats 4000000 in
theorem Split_any (n : Int) (w : World) : Calls Tryd.prog 24 #[.int .i64 n] w (Give4 (spY n) (spM n) (spD n) (spE n) w) := by
  rcases Bool.eq_false_or_eq_true (isDayB n) with hd | hd
  · have hn := isDay_iff.1 hd
    by_cases h0 : n = 0
    · subst h0
      have Fin := hid sp_zero
      go_enter Tryd.func24, Tryd.ntmps24
      go_wp2_with fail
      refine (isDay_any _ _).mono ?_
      rintro e w' ⟨rfl, rfl⟩
      go_wp2
      (try simp only [Exit.inBlock, Exit.then])
      refine bodyPost_ret (results_tmp4 rfl _ _ _) rfl ?_
      exact ⟨by rw [Fin.out.1, Fin.out.2.1, Fin.out.2.2.1, Fin.out.2.2.2]; rfl, Ext.refl _⟩
    · have d0 : (n == 0) = false := by simpa using h0
      have hg := guess_lt (n := n) (by omega)
      have g1 : 1 ≤ n / 366 + 1 := by omega
      have g2 : n / 366 + 1 ≤ 9999 := by omega
      have hn1 : 1 ≤ n := by omega
      have hn2 : n ≤ 3652059 := hn.2
      clear h0 hn
      go_enter Tryd.func24, Tryd.ntmps24
      go_wp2_with fail
      refine (isDay_any _ _).mono ?_
      rintro e w' ⟨rfl, rfl⟩
      go_wp2_with fail
      go_loopw [6] (fun a wr => (∃ y : Int, 1 ≤ y ∧ y ≤ 9999 ∧ Hid (ydS y < n) ∧ a = .int .i64 y) ∧ wr = w) (fun a _ => (9999 - intOf a).toNat)
      case atStart => exact ⟨⟨_, g1, g2, hg, rfl⟩, rfl⟩
      case round =>
        obtain ⟨⟨y, hy1, hy2, hy3, rfl⟩, rfl⟩ := hrel
        have hys := yd_in (y := y + 1) (by omega) (by omega)
        by_cases hc : ydS (y + 1) < n
        · have t1 : decide (ydS (y + 1) < n) = true := by simpa using hc
          have hlt : y < 9999 := by
            by_cases e : y = 9999
            · subst e; have := yd_10000; rw [show (9999 : Int) + 1 = 10000 from rfl, this] at hc; omega
            · omega
          have hc' := hid hc
          clear hc
          go_wp2_with fail
          refine (yearsDays_any (y + 1) _ (by omega) (by omega)).mono ?_
          rintro e w' ⟨rfl, rfl⟩
          go_wp2
          go_roundw
          case rel => exact ⟨⟨y + 1, by omega, by omega, hc', rfl⟩, by trivial⟩
          case measure => simp [intOf]; omega
        · have t1 : decide (ydS (y + 1) < n) = false := by simpa using hc
          have hyr := hid (cum_12s y hy1)
          have hye : Hid (n ≤ ydS y + cumS y 12) := by unfold Hid; rw [← hyr.out]; omega
          have hyl := yd_in (y := y) (by omega) (by omega)
          have hy3 := hy3.out
          clear hc hg g1 g2
          go_wp2_with fail
          refine (yearsDays_any (y + 1) _ (by omega) (by omega)).mono ?_
          rintro e w' ⟨rfl, rfl⟩
          go_wp2_with fail
          refine (yearsDays_any y _ (by omega) (by omega)).mono ?_
          rintro e w' ⟨rfl, rfl⟩
          clear t1 hys
          go_wp2_with fail
          go_loopw [7, 8] (fun a b wq => ∃ (k : Nat) (d : Int), k ≤ 11 ∧ 1 ≤ d ∧ d ≤ 366 ∧ Hid (d = n - ydS y - cumS y k) ∧ b = .int .i64 ((k : Int) + 1) ∧ a = .int .i64 d ∧ Hid (Ext wr wq)) (fun _ b _ => (12 - intOf b).toNat)
          case atStart =>
            refine ⟨0, n - ydS y, by omega, by omega, ?_, by simp [Hid, cumS], rfl, rfl, Ext.refl _⟩
            have := cum_12 y
            have := leapN_in y
            have := hye.out
            omega
          case round =>
            obtain ⟨k, d, hk, hd1, hd2, hde, rfl, rfl, hx⟩ := hrel
            have hmd := md_in y ((k : Int) + 1)
            have hcs : Hid (cumS y (k + 1) = cumS y k + mdS y ((k : Int) + 1)) := rfl
            by_cases hc : mdS y ((k : Int) + 1) < d
            · have t1 : decide (mdS y ((k : Int) + 1) < d) = true := by simpa using hc
              have hk10 : k ≤ 10 := by
                by_cases e : k = 11
                · subst e
                  have a1 := hde.out
                  have a2 := hcs.out
                  have a3 := hye.out
                  rw [show (11 + 1 : Nat) = 12 from rfl] at a2
                  omega
                · omega
              have hde2 : Hid (d - mdS y ((k : Int) + 1) = n - ydS y - cumS y (k + 1)) := by unfold Hid; rw [hcs.out, hde.out]; omega
              have b1 : 1 ≤ d - mdS y ((k : Int) + 1) := by omega
              have b2 : d - mdS y ((k : Int) + 1) ≤ 366 := by omega
              go_wp2_with fail
              refine (monthDays_any y ((k : Int) + 1) _ (by omega) (by omega) (by omega)).mono ?_
              rintro e w1 ⟨rfl, hx1⟩
              have hx2 := hid (hx.out.trans hx1)
              clear hx1
              go_wp2_with fail
              refine (monthDays_any y ((k : Int) + 1) _ (by omega) (by omega) (by omega)).mono ?_
              rintro e w2 ⟨rfl, hx3⟩
              have hx4 := hid (hx2.out.trans hx3)
              clear hx3 hc
              go_wp2
              go_roundw
              case rel => exact ⟨k + 1, _, by omega, b1, b2, hde2, by go_num, rfl, hx4⟩
              case measure => simp [intOf]; omega
            · have t1 : decide (mdS y ((k : Int) + 1) < d) = false := by simpa using hc
              have Fin : Hid (spY n = y ∧ spM n = (k : Int) + 1 ∧ spD n = d ∧ spE n = 0) := by
                refine sp_day ⟨hy1, hy2, by omega, by omega, hd1, by omega⟩ ?_
                have a1 := hde.out
                unfold dayS
                rw [show ((k : Int) + 1 - 1).toNat = k by omega]
                omega
              clear hc
              go_wp2_with fail
              refine (monthDays_any y ((k : Int) + 1) _ (by omega) (by omega) (by omega)).mono ?_
              rintro e w1 ⟨rfl, hx1⟩
              have hx2 := hid (hx.out.trans hx1)
              clear hx1
              go_wp2
              (try simp only [Exit.inBlock, Exit.then])
              refine bodyPost_ret (results_tmp4 rfl _ _ _) rfl ?_
              exact ⟨by rw [Fin.out.1, Fin.out.2.1, Fin.out.2.2.1, Fin.out.2.2.2]; rfl, hx2.out⟩
  · have Fin := hid (sp_no hd)
    go_enter Tryd.func24, Tryd.ntmps24
    go_wp2_with fail
    refine (isDay_any _ _).mono ?_
    rintro e w' ⟨rfl, rfl⟩
    go_wp2
    (try simp only [Exit.inBlock, Exit.then])
    refine bodyPost_ret (results_tmp4 rfl _ _ _) rfl ?_
    exact ⟨by rw [Fin.out.1, Fin.out.2.1, Fin.out.2.2.1, Fin.out.2.2.2]; rfl, Ext.refl _⟩
end Go.Proofs.YtkjcfnmbnddhjaaDoor
