/-
  The date, the weekday and the stamp of a day, and the day so many months later: the program and the reference.
-/
import Derived.Test.YtkjcfnmbnddhjaaDoorVe1
import Derived.Test.YtkjcfnmbnddhjaaDoorVb1
namespace Go.Proofs.YtkjcfnmbnddhjaaDoor
open Go.RowKit
set_option linter.unusedVariables false
set_option linter.unusedSimpArgs false
theorem rd_any (y m : Int) (w : World) (h1 : 1 ≤ y) (h2 : y ≤ 9999) (h3 : 1 ≤ m) (h4 : m ≤ 12) : Calls Tryd.prog 23 #[.int .i64 y, .int .i64 m, .int .i64 1] w fun e w' => e = .returned (.tuple #[.int .i64 (ydS y + cumS y (m - 1).toNat + 1), .int .i64 0]) ∧ w = w' := by
  have hmd := md_in y m
  have hk : okD y m 1 := ⟨h1, h2, h3, h4, by omega, by omega⟩
  obtain ⟨a, b⟩ := day_ok hk
  have := rDays_any y m 1 w
  rw [a, b] at this
  exact this
theorem rd1_any (y : Int) (w : World) (h1 : 1 ≤ y) (h2 : y ≤ 9999) : Calls Tryd.prog 23 #[.int .i64 y, .int .i64 1, .int .i64 1] w fun e w' => e = .returned (.tuple #[.int .i64 (ydS y + 1), .int .i64 0]) ∧ w = w' := by
  have := rd_any y 1 w h1 h2 (by omega) (by omega)
  rwa [show cumS y ((1 : Int) - 1).toNat = 0 from rfl, show ydS y + 0 + 1 = ydS y + 1 by omega] at this
theorem rdk_any (y : Int) (k : Nat) (w : World) (h1 : 1 ≤ y) (h2 : y ≤ 9999) (hk : k ≤ 11) : Calls Tryd.prog 23 #[.int .i64 y, .int .i64 ((k : Int) + 1), .int .i64 1] w fun e w' => e = .returned (.tuple #[.int .i64 (ydS y + cumS y k + 1), .int .i64 0]) ∧ w = w' := by
  have := rd_any y ((k : Int) + 1) w h1 h2 (by omega) (by omega)
  rwa [show ((k : Int) + 1 - 1).toNat = k by omega] at this
def Same4 (a b c d : Int) (w : World) (e : Ending) (w' : World) : Prop := e = .returned (.tuple #[.int .i64 a, .int .i64 b, .int .i64 c, .int .i64 d]) ∧ w = w'
set_option maxRecDepth 100000 in
set_option maxHeartbeats 4000000 in
theorem rSplit_any (n : Int) (w : World) : Calls Tryd.prog 35 #[.int .i64 n] w (Same4 (spY n) (spM n) (spD n) (spE n) w) := by
  by_cases q1 : n < 0
  · have d1 : decide (n < 0) = true := by simpa using q1
    have Fin := hid (sp_no (n := n) (by unfold isDayB; simp; omega))
    clear q1
    go_enter Tryd.func35, Tryd.ntmps35
    go_wp2
    (try simp only [Exit.inBlock, Exit.then])
    refine bodyPost_ret (results_tmp4 rfl _ _ _) rfl ?_
    exact ⟨by rw [Fin.out.1, Fin.out.2.1, Fin.out.2.2.1, Fin.out.2.2.2]; rfl, rfl⟩
  have d1 : decide (n < 0) = false := by simpa using q1
  by_cases q2 : 3652059 < n
  · have d2 : decide (3652059 < n) = true := by simpa using q2
    have Fin := hid (sp_no (n := n) (by unfold isDayB; simp; omega))
    clear q1 q2
    go_enter Tryd.func35, Tryd.ntmps35
    go_wp2
    (try simp only [Exit.inBlock, Exit.then])
    refine bodyPost_ret (results_tmp4 rfl _ _ _) rfl ?_
    exact ⟨by rw [Fin.out.1, Fin.out.2.1, Fin.out.2.2.1, Fin.out.2.2.2]; rfl, rfl⟩
  have d2 : decide (3652059 < n) = false := by simpa using q2
  by_cases h0 : n = 0
  · subst h0
    have Fin := hid sp_zero
    go_enter Tryd.func35, Tryd.ntmps35
    go_wp2
    (try simp only [Exit.inBlock, Exit.then])
    refine bodyPost_ret (results_tmp4 rfl _ _ _) rfl ?_
    exact ⟨by rw [Fin.out.1, Fin.out.2.1, Fin.out.2.2.1, Fin.out.2.2.2]; rfl, rfl⟩
  have d0 : (n == 0) = false := by simpa using h0
  have n1 : 1 ≤ n := by omega
  have n2 : n ≤ 3652059 := by omega
  clear q1 q2 h0
  go_enter Tryd.func35, Tryd.ntmps35
  go_wp2
  go_loopw [6, 7] (fun a b wr => (∃ lo hi : Int, 1 ≤ lo ∧ lo ≤ hi ∧ hi ≤ 9999 ∧ a = .int .i64 lo ∧ b = .int .i64 hi ∧ Hid (ydS lo < n) ∧ Hid (n ≤ ydS (hi + 1))) ∧ wr = w) (fun a b _ => (intOf b - intOf a).toNat)
  case atStart => exact ⟨⟨1, 9999, by omega, by omega, by omega, rfl, rfl, by unfold Hid; rw [yd_1]; omega, by unfold Hid; rw [show (9999 : Int) + 1 = 10000 from rfl, yd_10000]; omega⟩, rfl⟩
  case round =>
    obtain ⟨⟨lo, hi, l1, l2, l3, rfl, rfl, hlo, hhi⟩, rfl⟩ := hrel
    obtain ⟨wo, rfl⟩ : ∃ wo : World, wo = wr := ⟨_, rfl⟩
    by_cases hlt : lo < hi
    · have m1 : lo < (lo + hi + 1) / 2 := by omega
      have m2 : (lo + hi + 1) / 2 ≤ hi := by omega
      have hc := hid (fun w => rd1_any ((lo + hi + 1) / 2) w (by omega) (by omega))
      by_cases hd : ydS ((lo + hi + 1) / 2) + 1 ≤ n
      · have d3 : decide (ydS ((lo + hi + 1) / 2) + 1 ≤ n) = true := by simpa using hd
        have hn : Hid (ydS ((lo + hi + 1) / 2) < n) := by unfold Hid; omega
        clear hd
        go_wp2_with fail
        refine (hc.out _).mono ?_
        rintro e w' ⟨rfl, rfl⟩
        go_wp2
        go_roundw
        case rel => exact ⟨⟨_, hi, by omega, m2, l3, rfl, rfl, hn, hhi⟩, by trivial⟩
        case measure => simp [intOf]; omega
      · have d3 : decide (ydS ((lo + hi + 1) / 2) + 1 ≤ n) = false := by simpa using hd
        have hn : Hid (n ≤ ydS ((lo + hi + 1) / 2 - 1 + 1)) := by unfold Hid; rw [show (lo + hi + 1) / 2 - 1 + 1 = (lo + hi + 1) / 2 by omega]; omega
        clear hd
        go_wp2_with fail
        refine (hc.out _).mono ?_
        rintro e w' ⟨rfl, rfl⟩
        go_wp2
        go_roundw
        case rel => exact ⟨⟨lo, _, l1, by omega, by omega, rfl, rfl, hlo, hn⟩, by trivial⟩
        case measure => simp [intOf]; omega
    · obtain rfl : lo = hi := by omega
      have hy := hid (cum_12s lo l1)
      have hc := hid (fun w => rdk_any lo 11 w l1 l3 (by omega))
      have hb := yd_in (y := lo) l1 (by omega)
      clear d0 d1 d2
      go_wp2_with fail
      refine (hc.out _).mono ?_
      rintro e w' ⟨rfl, rfl⟩
      go_wp2
      go_loopw [11, 12] (fun a b wr => (∃ k : Nat, k ≤ 11 ∧ a = .int .i64 ((k : Int) + 1) ∧ b = .int .i64 (ydS lo + cumS lo k + 1) ∧ Hid (n ≤ ydS lo + cumS lo (k + 1))) ∧ wr = wo) (fun a _ _ => (intOf a).toNat)
      case atStart => exact ⟨⟨11, by omega, rfl, rfl, by have := hhi.out; rw [hy.out] at this; exact this⟩, by trivial⟩
      case round =>
        obtain ⟨⟨k, hk, rfl, rfl, hinv⟩, rfl⟩ := hrel
        have hcu := cum_in lo k
        by_cases hd : n < ydS lo + cumS lo k + 1
        · have d3 : decide (n < ydS lo + cumS lo k + 1) = true := by simpa using hd
          cases k with
          | zero =>
            exfalso
            have h1 := hlo.out
            have h2 : cumS lo 0 = 0 := rfl
            omega
          | succ j =>
            have hc2 := hid (fun w => rdk_any lo j w l1 l3 (by omega))
            have hn : Hid (n ≤ ydS lo + cumS lo (j + 1)) := by unfold Hid; omega
            have ej : ((j + 1 : Nat) : Int) + 1 - 1 = (j : Int) + 1 := by omega
            clear hd
            go_wp2_with fail
            first | (rw [ej]; refine (hc2.out _).mono ?_) | (refine (hc2.out _).mono ?_)
            rintro e w' ⟨rfl, rfl⟩
            go_wp2
            go_roundw
            case rel => exact ⟨⟨j, by omega, by first | go_num | rfl, rfl, hn⟩, by trivial⟩
            case measure => simp [intOf]; omega
        · have d3 : decide (n < ydS lo + cumS lo k + 1) = false := by simpa using hd
          have Fin : Hid (spY n = lo ∧ spM n = (k : Int) + 1 ∧ spD n = n - (ydS lo + cumS lo k + 1) + 1 ∧ spE n = 0) := by
            have hs : cumS lo (k + 1) = cumS lo k + mdS lo ((k : Int) + 1) := rfl
            have hh := hinv.out
            refine sp_day ⟨l1, l3, by omega, by omega, by omega, by omega⟩ ?_
            unfold dayS
            rw [show ((k : Int) + 1 - 1).toNat = k by omega]
            omega
          clear hd
          go_wp2
          (try simp only [Exit.inBlock, Exit.then])
          refine bodyPost_ret (results_tmp4 rfl _ _ _) rfl ?_
          exact ⟨by rw [Fin.out.1, Fin.out.2.1, Fin.out.2.2.1, Fin.out.2.2.2]; rfl, rfl⟩
def wdO (n : Int) : Int := if isDayB n then (if n = 0 then 0 else n % 7 + 1) else 0
theorem wd_no {n : Int} (h : isDayB n = false) : wdO n = 0 := by unfold wdO; rw [h]; rfl
theorem wd_yes {n : Int} (h : isDayB n = true) (h0 : n ≠ 0) : wdO n = n % 7 + 1 := by unfold wdO; rw [if_pos h, if_neg h0]
theorem spE_t {n : Int} (h : isDayB n = true) : spE n = 0 := by unfold spE; rw [if_pos h]
theorem spE_f {n : Int} (h : isDayB n = false) : spE n = 1 := by unfold spE; rw [h]; rfl
theorem ret_ie {a b c d : Int} (h : a = b) (k : c = d) : Ending.returned (.tuple #[.int .i64 a, .int .i64 c]) = .returned (.tuple #[.int .i64 b, .int .i64 d]) := by rw [h, k]
set_option maxRecDepth 100000 in
set_option maxHeartbeats 4000000 in
theorem Weekday_any (n : Int) (w : World) : Calls Tryd.prog 36 #[.int .i64 n] w fun e w' => e = .returned (.tuple #[.int .i64 (wdO n), .int .i64 (spE n)]) ∧ w = w' := by
  rcases Bool.eq_false_or_eq_true (isDayB n) with hd | hd
  rotate_left
  · rw [wd_no hd, spE_f hd]
    go_enter Tryd.func36, Tryd.ntmps36
    go_wp2_with fail
    refine (isDay_any _ _).mono ?_
    rintro e w' ⟨rfl, rfl⟩
    go_wp2
    go_ret2
    exact ⟨rfl, rfl⟩
  rw [spE_t hd]
  by_cases h0 : n = 0
  · subst h0
    go_enter Tryd.func36, Tryd.ntmps36
    go_wp2_with fail
    refine (isDay_any _ _).mono ?_
    rintro e w' ⟨rfl, rfl⟩
    go_wp2
    go_ret2
    exact ⟨rfl, rfl⟩
  rw [wd_yes hd h0]
  have hn := isDay_iff.1 hd
  have d0 : (n == 0) = false := by simpa using h0
  go_enter Tryd.func36, Tryd.ntmps36
  go_wp2_with fail
  refine (isDay_any _ _).mono ?_
  rintro e w' ⟨rfl, rfl⟩
  obtain ⟨hn1, hn2⟩ := hn
  go_wp2
  go_ret2
  exact ⟨rfl, rfl⟩
set_option maxRecDepth 100000 in
set_option maxHeartbeats 4000000 in
theorem rWeekday_any (n : Int) (w : World) : Calls Tryd.prog 37 #[.int .i64 n] w fun e w' => e = .returned (.tuple #[.int .i64 (wdO n), .int .i64 (spE n)]) ∧ w = w' := by
  by_cases q1 : n < 0
  · have d1 : decide (n < 0) = true := by simpa using q1
    have hd : isDayB n = false := by unfold isDayB; simp; omega
    rw [wd_no hd, spE_f hd]
    clear q1
    go_enter Tryd.func37, Tryd.ntmps37
    go_wp2
    go_ret2
    exact ⟨rfl, rfl⟩
  have d1 : decide (n < 0) = false := by simpa using q1
  by_cases q2 : 3652059 < n
  · have d2 : decide (3652059 < n) = true := by simpa using q2
    have hd : isDayB n = false := by unfold isDayB; simp; omega
    rw [wd_no hd, spE_f hd]
    clear q1 q2
    go_enter Tryd.func37, Tryd.ntmps37
    go_wp2
    go_ret2
    exact ⟨rfl, rfl⟩
  have d2 : decide (3652059 < n) = false := by simpa using q2
  have hd : isDayB n = true := isDay_iff.2 (by omega)
  rw [spE_t hd]
  by_cases h0 : n = 0
  · subst h0
    go_enter Tryd.func37, Tryd.ntmps37
    go_wp2
    go_ret2
    exact ⟨rfl, rfl⟩
  rw [wd_yes hd h0]
  have d0 : (n == 0) = false := by simpa using h0
  have hn1 : 0 ≤ n := by omega
  have hn2 : n ≤ 3652059 := by omega
  go_enter Tryd.func37, Tryd.ntmps37
  go_wp2
  go_ret2
  exact ⟨rfl, rfl⟩
def padB (n : Int) (k : Nat) : ByteArray := repB 48 (k - (decB n).size) ++ decB n
theorem decB_small {n : Int} {k : Nat} (h0 : 0 ≤ n) (h : n < (10 ^ (k + 1) : Nat)) : (decB n).size ≤ k + 1 := by
  unfold decB
  rw [if_neg (by omega), strB_size]
  exact (decL_len n.toNat k (by omega)).2
theorem padB_size {n : Int} {k : Nat} (h : (decB n).size ≤ k) : (padB n k).size = k := by unfold padB; rw [ByteArray.size_append, repB_size]; omega
theorem rep_cons (c : UInt8) (k : Nat) (d : ByteArray) : (⟨#[c]⟩ : ByteArray) ++ (repB c k ++ d) = repB c (k + 1) ++ d := by
  apply str_ext
  rw [show (⟨#[c]⟩ : ByteArray) = strB [c] from rfl, add_list, add_list, add_list]
  unfold repB
  rw [strB_toList, strB_toList, strB_toList, List.replicate_succ]
  rfl
set_option maxRecDepth 100000 in
set_option maxHeartbeats 4000000 in
theorem padded_any (n : Int) (k : Nat) (w : World) (h0 : 0 ≤ n) (h1 : n ≤ 10000) (hk : (decB n).size ≤ k) (hk2 : k ≤ 100) : Calls Tryd.prog 121 #[.int .i64 n, .int .i64 (k : Int)] w (Give (.string (padB n k)) w) := by
  have hdec := hid (fun w => dec_any n (by omega) (by omega) w)
  obtain ⟨j, hj⟩ : ∃ j : Nat, k = (decB n).size + j := ⟨k - (decB n).size, by omega⟩
  have hr := hid (fun w => rep_any 48 j (by omega) w)
  have hadd : ∀ wx, (Op.stringOp .add (repB 48 j) (decB n)).run Tryd.prog wx = .ok (.string (repB 48 j ++ decB n)) wx := str_add _ _ (by rw [repB_size]; omega)
  have ej : (k : Int) - ((decB n).size : Int) = (j : Int) := by omega
  have hp : Hid (padB n k = repB 48 j ++ decB n) := by unfold Hid padB; rw [show k - (decB n).size = j by omega]
  replace ej := hid ej
  replace hj := hid hj
  generalize decB n = D at *
  generalize padB n k = R at *
  go_enter Tryd.func121, Tryd.ntmps121
  go_wp2_with fail
  refine (hdec.out _).mono ?_
  rintro e w1 ⟨rfl, hd⟩
  go_wp2_with fail
  rw [ej.out]
  refine (hr.out _).mono ?_
  rintro e w2 ⟨rfl, hx⟩
  go_wp2
  go_ret
  exact ⟨by rw [hp.out]; rfl, (Dr.ext hd).trans hx⟩
set_option maxRecDepth 100000 in
set_option maxHeartbeats 4000000 in
theorem rPadded_any (n : Int) (k : Nat) (w : World) (h0 : 0 ≤ n) (h1 : n ≤ 10000) (hk : (decB n).size ≤ k) (hk2 : k ≤ 100) : Calls Tryd.prog 89 #[.int .i64 n, .int .i64 (k : Int)] w fun e w' => e = .returned (.string (padB n k)) ∧ w = w' := by
  have hdec := hid (fun w => wri_any n (by omega) (by omega) w)
  have hadd : Hid (∀ j wx, j ≤ k → (Op.stringOp .add ⟨#[48]⟩ (repB 48 j ++ decB n)).run Tryd.prog wx = .ok (.string (repB 48 (j + 1) ++ decB n)) wx) := fun j wx hj => by
    rw [str_add _ _ (by rw [ByteArray.size_append, repB_size]; show 1 + _ ≤ _; omega), rep_cons]
  have hz : Hid (repB 48 0 ++ decB n = decB n) := by
    unfold Hid
    apply str_ext
    rw [add_list]
    unfold repB
    rw [strB_toList]
    rfl
  have hp : Hid (∀ j, j + (decB n).size = k → padB n k = repB 48 j ++ decB n) := fun j hj => by unfold padB; rw [show k - (decB n).size = j by omega]
  have hs : Hid (∀ j, (repB 48 j ++ decB n).size = j + (decB n).size) := fun j => by rw [ByteArray.size_append, repB_size]
  generalize decB n = D at *
  generalize padB n k = R at *
  go_enter Tryd.func89, Tryd.ntmps89
  go_wp2_with fail
  refine (hdec.out _).mono ?_
  rintro e w1 ⟨rfl, rfl⟩
  go_wp2
  go_loopw [5] (fun v wr => (∃ (j : Nat) (S : ByteArray), j + D.size ≤ k ∧ v = .string S ∧ Hid (S = repB 48 j ++ D) ∧ S.size = j + D.size) ∧ wr = w) (fun v _ => k - sizeOf' v)
  case atStart => exact ⟨⟨0, D, by omega, rfl, hz.out.symm, by omega⟩, rfl⟩
  case round =>
    obtain ⟨⟨j, S, hj, rfl, hS, hl⟩, rfl⟩ := hrel
    have hl' := hl
    by_cases hlt : j + D.size < k
    · have ha : ∀ wx, (Op.stringOp .add ⟨#[48]⟩ S).run Tryd.prog wx = .ok (.string (repB 48 (j + 1) ++ D)) wx := fun wx => by rw [hS.out]; exact hadd.out j wx (by omega)
      have d1 : decide ((S.size : Int) < (k : Int)) = true := by simp; omega
      have d2 : decide (S.size < k) = true := by simp; omega
      have hl := hid hl
      clear hl'
      go_wp2
      go_roundw
      case rel => exact ⟨⟨j + 1, _, by omega, rfl, rfl, hs.out _⟩, by trivial⟩
      case measure => simp only [sizeOf']; rw [hs.out, hl.out]; omega
    · have d1 : decide ((S.size : Int) < (k : Int)) = false := by simp; omega
      have d2 : decide (S.size < k) = false := by simp; omega
      have hr : Hid (R = S) := by unfold Hid; rw [hp.out j (by omega), hS.out]
      clear hl hl'
      go_wp2
      go_ret
      exact ⟨by rw [hr.out]; rfl, rfl⟩
noncomputable def stB (n : Int) : ByteArray := padB (spY n) 4 ++ padB (spM n) 2 ++ padB (spD n) 2
theorem sp_sizes {n : Int} (h : isDayB n = true) : (0 ≤ spY n ∧ spY n ≤ 9999) ∧ (0 ≤ spM n ∧ spM n ≤ 12) ∧ (0 ≤ spD n ∧ spD n ≤ 31) := by
  by_cases h0 : n = 0
  · subst h0
    obtain ⟨a, b, c, _⟩ := sp_zero
    rw [a, b, c]
    omega
  · obtain ⟨⟨h1, h2, h3, h4, h5, h6⟩, _, _⟩ := sp_ok h h0
    have := md_in (spY n) (spM n)
    omega
theorem pads {y m d : Int} (hy : 0 ≤ y ∧ y ≤ 9999) (hm : 0 ≤ m ∧ m ≤ 12) (hd : 0 ≤ d ∧ d ≤ 31) : (decB y).size ≤ 4 ∧ (decB m).size ≤ 2 ∧ (decB d).size ≤ 2 :=
  ⟨decB_small (k := 3) hy.1 (by omega), decB_small (k := 1) hm.1 (by omega), decB_small (k := 1) hd.1 (by omega)⟩
theorem stB_size {n : Int} (h : isDayB n = true) : (stB n).size = 8 := by
  obtain ⟨hy, hm, hd⟩ := sp_sizes h
  obtain ⟨a, b, c⟩ := pads hy hm hd
  unfold stB
  rw [ByteArray.size_append, ByteArray.size_append, padB_size a, padB_size b, padB_size c]
set_option maxRecDepth 100000 in
set_option maxHeartbeats 4000000 in
theorem stamp_any (n : Int) (h : isDayB n = true) (w : World) : Calls Tryd.prog 88 #[.int .i64 n] w (Give (.string (stB n)) w) := by
  obtain ⟨hy, hm, hd⟩ := sp_sizes h
  obtain ⟨a, b, c⟩ := pads hy hm hd
  have c0 := hid (fun w => Split_any n w)
  have c1 := hid (fun w => padded_any (spY n) 4 w hy.1 (by omega) a (by omega))
  have c2 := hid (fun w => padded_any (spM n) 2 w hm.1 (by omega) b (by omega))
  have c3 := hid (fun w => padded_any (spD n) 2 w hd.1 (by omega) c (by omega))
  have a1 := str_add (padB (spY n) 4) (padB (spM n) 2) (by rw [padB_size a, padB_size b]; omega)
  have a2 := str_add (padB (spY n) 4 ++ padB (spM n) 2) (padB (spD n) 2) (by rw [ByteArray.size_append, padB_size a, padB_size b, padB_size c]; omega)
  rw [spE_t h] at c0
  have hp : Hid (stB n = padB (spY n) 4 ++ padB (spM n) 2 ++ padB (spD n) 2) := rfl
  clear a b c hy hm hd h
  generalize stB n = R at *
  generalize padB (spY n) 4 = Y at *
  generalize padB (spM n) 2 = M at *
  generalize padB (spD n) 2 = D at *
  generalize spY n = y at *
  generalize spM n = m at *
  generalize spD n = d at *
  go_enter Tryd.func88, Tryd.ntmps88
  go_wp2_with fail
  refine (c0.out _).mono ?_
  rintro e w1 ⟨rfl, hx1⟩
  go_wp2_with fail
  refine (c1.out _).mono ?_
  rintro e w2 ⟨rfl, hx2⟩
  go_wp2_with fail
  refine (c2.out _).mono ?_
  rintro e w3 ⟨rfl, hx3⟩
  go_wp2_with fail
  refine (c3.out _).mono ?_
  rintro e w4 ⟨rfl, hx4⟩
  go_wp2
  go_ret
  exact ⟨by rw [hp.out]; rfl, ((hx1.trans hx2).trans hx3).trans hx4⟩
def bl8 : ByteArray := ⟨#[32, 32, 32, 32, 32, 32, 32, 32]⟩
noncomputable def stS (n : Int) : ByteArray := if isDayB n then (if n = 0 then bl8 else stB n) else ByteArray.empty
theorem stS_no {n : Int} (h : isDayB n = false) : stS n = ByteArray.empty := by unfold stS; rw [h]; rfl
theorem stS_0 : stS 0 = bl8 := by unfold stS; rw [if_pos (by decide), if_pos rfl]
theorem stS_yes {n : Int} (h : isDayB n = true) (h0 : n ≠ 0) : stS n = stB n := by unfold stS; rw [if_pos h, if_neg h0]
set_option maxRecDepth 100000 in
set_option maxHeartbeats 4000000 in
theorem Stamp_any (n : Int) (w : World) : Calls Tryd.prog 38 #[.int .i64 n] w (GiveSE (stS n) (spE n) w) := by
  rcases Bool.eq_false_or_eq_true (isDayB n) with hd | hd
  rotate_left
  · rw [stS_no hd, spE_f hd]
    go_enter Tryd.func38, Tryd.ntmps38
    go_wp2_with fail
    refine (isDay_any _ _).mono ?_
    rintro e w' ⟨rfl, rfl⟩
    go_wp2
    go_ret2
    exact ⟨rfl, Ext.refl _⟩
  rw [spE_t hd]
  by_cases h0 : n = 0
  · subst h0
    rw [stS_0]
    go_enter Tryd.func38, Tryd.ntmps38
    go_wp2_with fail
    refine (isDay_any _ _).mono ?_
    rintro e w' ⟨rfl, rfl⟩
    go_wp2
    go_ret2
    exact ⟨rfl, Ext.refl _⟩
  rw [stS_yes hd h0]
  have d0 : (n == 0) = false := by simpa using h0
  have c := hid (fun w => stamp_any n hd w)
  generalize stB n = S at *
  go_enter Tryd.func38, Tryd.ntmps38
  go_wp2_with fail
  refine (isDay_any _ _).mono ?_
  rintro e w' ⟨rfl, rfl⟩
  go_wp2_with fail
  refine (c.out _).mono ?_
  rintro e w1 ⟨rfl, hx⟩
  go_wp2
  go_ret2
  exact ⟨rfl, hx⟩
set_option maxRecDepth 100000 in
set_option maxHeartbeats 4000000 in
theorem rStamp_any (n : Int) (w : World) : Calls Tryd.prog 39 #[.int .i64 n] w fun e w' => e = .returned (.tuple #[.string (stS n), .int .i64 (spE n)]) ∧ w = w' := by
  have c0 := hid (fun w => rSplit_any n w)
  unfold Same4 at c0
  rcases Bool.eq_false_or_eq_true (isDayB n) with hd | hd
  rotate_left
  · rw [stS_no hd]
    rw [spE_f hd] at c0 ⊢
    generalize spY n = y at *
    generalize spM n = m at *
    generalize spD n = d at *
    go_enter Tryd.func39, Tryd.ntmps39
    go_wp2_with fail
    refine (c0.out _).mono ?_
    rintro e w' ⟨rfl, rfl⟩
    go_wp2
    go_ret2
    exact ⟨rfl, rfl⟩
  rw [spE_t hd] at c0 ⊢
  by_cases h0 : n = 0
  · subst h0
    rw [stS_0]
    generalize spY 0 = y at *
    generalize spM 0 = m at *
    generalize spD 0 = d at *
    go_enter Tryd.func39, Tryd.ntmps39
    go_wp2_with fail
    refine (c0.out _).mono ?_
    rintro e w' ⟨rfl, rfl⟩
    go_wp2
    go_ret2
    exact ⟨rfl, rfl⟩
  rw [stS_yes hd h0]
  have d0 : (n == 0) = false := by simpa using h0
  obtain ⟨hy, hm, hdd⟩ := sp_sizes hd
  obtain ⟨a, b, c⟩ := pads hy hm hdd
  have c1 := hid (fun w => rPadded_any (spY n) 4 w hy.1 (by omega) a (by omega))
  have c2 := hid (fun w => rPadded_any (spM n) 2 w hm.1 (by omega) b (by omega))
  have c3 := hid (fun w => rPadded_any (spD n) 2 w hdd.1 (by omega) c (by omega))
  have a1 := str_add (padB (spY n) 4) (padB (spM n) 2) (by rw [padB_size a, padB_size b]; omega)
  have a2 := str_add (padB (spY n) 4 ++ padB (spM n) 2) (padB (spD n) 2) (by rw [ByteArray.size_append, padB_size a, padB_size b, padB_size c]; omega)
  have hp : Hid (stB n = padB (spY n) 4 ++ padB (spM n) 2 ++ padB (spD n) 2) := rfl
  clear a b c hy hm hdd hd h0
  generalize stB n = R at *
  generalize padB (spY n) 4 = Y at *
  generalize padB (spM n) 2 = M at *
  generalize padB (spD n) 2 = D at *
  generalize spY n = y at *
  generalize spM n = m at *
  generalize spD n = d at *
  go_enter Tryd.func39, Tryd.ntmps39
  go_wp2_with fail
  refine (c0.out _).mono ?_
  rintro e w1 ⟨rfl, rfl⟩
  go_wp2_with fail
  refine (c1.out _).mono ?_
  rintro e w1 ⟨rfl, rfl⟩
  go_wp2_with fail
  refine (c2.out _).mono ?_
  rintro e w1 ⟨rfl, rfl⟩
  go_wp2_with fail
  refine (c3.out _).mono ?_
  rintro e w1 ⟨rfl, rfl⟩
  go_wp2
  go_ret2
  exact ⟨by rw [hp.out]; rfl, rfl⟩
end Go.Proofs.YtkjcfnmbnddhjaaDoor
