/-
  Powers: the program and the reference.
-/
import Derived.Test.YtkjcfnmbnddhjaaDoorVc3
namespace Go.Proofs.YtkjcfnmbnddhjaaDoor
open Go.RowKit
set_option linter.unusedVariables false
set_option linter.unusedSimpArgs false
/-- The k-th power so far, and whether it is a number. -/
def pw (a : Int) : Nat → Int × Bool
  | 0 => (1, true)
  | k + 1 => if (pw a k).2 then (prO (pw a k).1 a, prB (pw a k).1 a) else (0, false)
theorem pw_succ (a : Int) (k : Nat) : pw a (k + 1) = if (pw a k).2 then (prO (pw a k).1 a, prB (pw a k).1 a) else (0, false) := rfl
theorem pr_false {a b : Int} (h : prB a b = false) : prO a b = 0 := by
  unfold prB at h
  unfold prO
  split at h
  · cases h
  · rename_i h1
    rw [if_neg h1]
    split at h
    · rename_i h2; rw [if_pos h2]
    · cases h
theorem pr_true {a b : Int} (h : prB a b = true) : -1000000000000000 ≤ prO a b ∧ prO a b ≤ 1000000000000000 := by
  unfold prB at h
  unfold prO
  split at h
  · rename_i h1; rw [if_pos h1]; decide
  · rename_i h1
    rw [if_neg h1]
    split at h
    · cases h
    · rename_i h2; rw [if_neg h2]; exact mul_small h2 (by omega)
theorem pw_in (a : Int) (k : Nat) (h : (pw a k).2 = true) : -1000000000000000 ≤ (pw a k).1 ∧ (pw a k).1 ≤ 1000000000000000 := by
  cases k with
  | zero => exact ⟨by show (-1000000000000000 : Int) ≤ 1; decide, by show (1 : Int) ≤ 1000000000000000; decide⟩
  | succ k =>
    rw [pw_succ] at h ⊢
    split at h
    · rename_i q; rw [if_pos q]; exact pr_true h
    · cases h
theorem pw_stop {a : Int} {k : Nat} (h : (pw a k).2 = false) (hk : 0 < k) : ∀ m, k ≤ m → pw a m = (0, false) := by
  intro m hm
  induction m with
  | zero => omega
  | succ m ih =>
    by_cases e : k = m + 1
    · subst e
      have h' := h
      rw [pw_succ] at h'
      split at h'
      · rename_i q
        have h2 : prB (pw a m).1 a = false := h'
        rw [pw_succ, if_pos q, pr_false h2, h2]
      · rename_i q; rw [pw_succ, if_neg q]
    · rw [pw_succ, ih (by omega)]
      rfl
theorem pw_one (k : Nat) : pw 1 k = (1, true) := by
  induction k with
  | zero => rfl
  | succ k ih => rw [pw_succ, ih]; decide
theorem pw_zero (k : Nat) : pw 0 (k + 1) = (0, true) := by
  have h2 : (pw 0 k).2 = true := by
    induction k with
    | zero => rfl
    | succ k ih => rw [pw_succ, if_pos ih]; unfold prB; rw [if_pos (Or.inr rfl)]
  rw [pw_succ, if_pos h2]
  unfold prO prB
  rw [if_pos (Or.inr rfl), if_pos (Or.inr rfl)]
theorem pw_neg (k : Nat) : pw (-1) k = (1 - 2 * ((k : Int) % 2), true) := by
  induction k with
  | zero => rfl
  | succ k ih =>
    rw [pw_succ, ih, if_pos rfl]
    rcases Nat.mod_two_eq_zero_or_one k with h | h
    · rw [show (k : Int) % 2 = 0 by omega, show ((k + 1 : Nat) : Int) % 2 = 1 by omega]; decide
    · rw [show (k : Int) % 2 = 1 by omega, show ((k + 1 : Nat) : Int) % 2 = 0 by omega]; decide
theorem pw_small {a : Int} (h : sizeN a ≤ 1) {b : Int} (hb : 0 ≤ b) : pw a (min b (2 + b % 2)).toNat = pw a b.toNat := by
  have ha : a = 0 ∨ a = 1 ∨ a = -1 := by unfold sizeN at h; omega
  rcases ha with rfl | rfl | rfl
  · by_cases b0 : b = 0
    · subst b0; rfl
    · obtain ⟨m, hm⟩ : ∃ m, (min b (2 + b % 2)).toNat = m + 1 := ⟨(min b (2 + b % 2)).toNat - 1, by omega⟩
      obtain ⟨j, hj⟩ : ∃ j, b.toNat = j + 1 := ⟨b.toNat - 1, by omega⟩
      rw [hm, hj, pw_zero, pw_zero]
  · rw [pw_one, pw_one]
  · rw [pw_neg, pw_neg]
    have : ((min b (2 + b % 2)).toNat : Int) % 2 = (b.toNat : Int) % 2 := by omega
    rw [this]
def powO (a b : Int) : Int := if b < 0 then 0 else (pw a b.toNat).1
def powB (a b : Int) : Bool := if b < 0 then false else (pw a b.toNat).2
def powR (a b : Int) : Res := limR (powO a b) (powB a b)
set_option maxRecDepth 100000 in
set_option maxHeartbeats 4000000 in
theorem power_any (a b : Int) (w : World) (ha : -1000000000000000 ≤ a ∧ a ≤ 1000000000000000) (hb : -1000000000000000 ≤ b ∧ b ≤ 1000000000000000) : Calls Tryd.prog 133 #[.int .i64 a, .int .i64 b] w fun e w' => e = .returned (.tuple #[.int .i64 (powO a b), .bool (powB a b)]) ∧ w = w' := by
  by_cases bn : b < 0
  · have d1 : decide (b < 0) = true := by simpa using bn
    have Fin : Hid (powO a b = 0 ∧ powB a b = false) := by unfold powO powB; rw [if_pos bn, if_pos bn]; exact ⟨rfl, rfl⟩
    go_enter Tryd.func133, Tryd.ntmps133
    go_wp2
    go_ret2
    exact ⟨by rw [Fin.out.1, Fin.out.2]; rfl, rfl⟩
  have d1 : decide (b < 0) = false := by simpa using bn
  have hO : Hid (powO a b = (pw a b.toNat).1) := by unfold Hid powO; rw [if_neg bn]
  have hB : Hid (powB a b = (pw a b.toNat).2) := by unfold Hid powB; rw [if_neg bn]
  by_cases b0 : b = 0
  · subst b0
    have Fin : Hid (powO a 0 = 1 ∧ powB a 0 = true) := ⟨hO.out, hB.out⟩
    go_enter Tryd.func133, Tryd.ntmps133
    go_wp2
    go_ret2
    exact ⟨by rw [Fin.out.1, Fin.out.2]; rfl, rfl⟩
  have e0 : (b == 0) = false := by simpa using b0
  by_cases a1 : a = 1
  · subst a1
    have Fin : Hid (powO 1 b = 1 ∧ powB 1 b = true) := by unfold Hid; rw [hO.out, hB.out, pw_one]; exact ⟨rfl, rfl⟩
    go_enter Tryd.func133, Tryd.ntmps133
    go_wp2
    go_ret2
    exact ⟨by rw [Fin.out.1, Fin.out.2]; rfl, rfl⟩
  have f1 : (a == 1) = false := by simpa using a1
  by_cases a0 : a = 0
  · subst a0
    have Fin : Hid (powO 0 b = 0 ∧ powB 0 b = true) := by
      obtain ⟨j, hj⟩ : ∃ j, b.toNat = j + 1 := ⟨b.toNat - 1, by omega⟩
      unfold Hid; rw [hO.out, hB.out, hj, pw_zero]; exact ⟨rfl, rfl⟩
    go_enter Tryd.func133, Tryd.ntmps133
    go_wp2
    go_ret2
    exact ⟨by rw [Fin.out.1, Fin.out.2]; rfl, rfl⟩
  have f0 : (a == 0) = false := by simpa using a0
  by_cases am : a = -1
  · subst am
    have Fin : Hid (powO (-1) b = 1 - 2 * (b % 2) ∧ powB (-1) b = true) := by
      unfold Hid; rw [hO.out, hB.out, pw_neg, show (b.toNat : Int) = b by omega]; exact ⟨rfl, rfl⟩
    have hb0 : 0 ≤ b := by omega
    have r0 : 0 ≤ b % 2 := by omega
    have r1 : b % 2 ≤ 1 := by omega
    go_enter Tryd.func133, Tryd.ntmps133
    go_wp2
    go_ret2
    exact ⟨by rw [Fin.out.1, Fin.out.2]; rfl, rfl⟩
  have fm : (a == -1) = false := by simpa using am
  have hb0 : 0 ≤ b := by omega
  have hb1 : b ≤ 1000000000000000 := hb.2
  clear hb bn b0 a1 a0 am
  go_enter Tryd.func133, Tryd.ntmps133
  go_wp2_with fail
  go_loopw [6, 7] (fun u v wr => (∃ k : Nat, (k : Int) ≤ b ∧ v = .int .i64 k ∧ Hid ((pw a k).2 = true) ∧ u = .int .i64 (pw a k).1) ∧ wr = w) (fun _ v _ => (b - intOf v).toNat)
  case atStart => exact ⟨⟨0, hb0, rfl, rfl, rfl⟩, rfl⟩
  case round =>
    obtain ⟨⟨k, hk, rfl, hok, rfl⟩, rfl⟩ := hrel
    have hin := pw_in a k hok.out
    have hs := hid (pw_succ a k)
    by_cases hlt : (k : Int) < b
    · have t1 : decide ((k : Int) < b) = true := by simpa using hlt
      rcases Bool.eq_false_or_eq_true (prB (pw a k).1 a) with q | q
      · have hs2 : Hid (pw a (k + 1) = (prO (pw a k).1 a, true)) := by unfold Hid; rw [hs.out, if_pos hok.out, q]
        generalize (pw a k).1 = x at *
        go_wp2_with fail
        refine (product_any _ _ _ hin ha).mono ?_
        rintro e w' ⟨rfl, rfl⟩
        go_wp2
        go_roundw
        case rel => exact ⟨⟨k + 1, by omega, by go_num, by rw [hs2.out]; rfl, by rw [hs2.out]⟩, by trivial⟩
        case measure => simp [intOf]; omega
      · have hs2 : (pw a (k + 1)).2 = false := by rw [hs.out, if_pos hok.out]; exact q
        have hst := pw_stop hs2 (by omega) b.toNat (by omega)
        have Fin : Hid (powO a b = 0 ∧ powB a b = false) := by unfold Hid; rw [hO.out, hB.out, hst]; exact ⟨rfl, rfl⟩
        clear hs2 hst
        generalize (pw a k).1 = x at *
        go_wp2_with fail
        refine (product_any _ _ _ hin ha).mono ?_
        rintro e w' ⟨rfl, rfl⟩
        go_wp2
        go_ret2
        exact ⟨by rw [Fin.out.1, Fin.out.2]; rfl, rfl⟩
    · have t1 : decide ((k : Int) < b) = false := by simpa using hlt
      have ek : b.toNat = k := by omega
      have Fin : Hid (powO a b = (pw a k).1 ∧ powB a b = true) := by unfold Hid; rw [hO.out, hB.out, ek]; exact ⟨rfl, hok.out⟩
      clear ek
      go_wp2
      go_ret2
      exact ⟨by rw [Fin.out.1, Fin.out.2]; rfl, rfl⟩
end Go.Proofs.YtkjcfnmbnddhjaaDoor
