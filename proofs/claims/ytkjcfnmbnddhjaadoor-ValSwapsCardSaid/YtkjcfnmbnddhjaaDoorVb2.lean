/-
  Which texts are equal: the program, the reference and the law.
-/
import Derived.Test.YtkjcfnmbnddhjaaDoorVa9
namespace Go.Proofs.YtkjcfnmbnddhjaaDoor
open Go.RowKit
set_option linter.unusedVariables false
set_option linter.unusedSimpArgs false
set_option maxRecDepth 100000 in
set_option maxHeartbeats 2000000 in
theorem Bare_any (s : ByteArray) (hs : s.size ≤ maxLen) (w : World) : Calls Tryd.prog 75 #[.string s] w fun e w' => e = .returned (.string (trimR s 32)) ∧ w = w' := by
  unfold maxLen at hs
  go_enter Tryd.func75, Tryd.ntmps75
  go_wp2_with fail
  go_loopw [3] (fun v wr => (∃ k : Nat, k ≤ s.size ∧ v = .int .i64 k ∧ Hid (trimR (s.extract 0 k) 32 = trimR s 32)) ∧ wr = w) (fun v _ => (intOf v).toNat)
  case atStart => exact ⟨⟨s.size, by omega, rfl, by unfold Hid; rw [ext_all]⟩, rfl⟩
  case round =>
    obtain ⟨⟨k, hk, rfl, hinv⟩, rfl⟩ := hrel
    cases k with
    | zero =>
      have hz : Hid (ByteArray.empty = trimR s 32) := by unfold Hid; rw [← hinv.out, trim_nil]; simp
      go_wp2
      go_ret
      exact ⟨by rw [← hz.out]; rfl, rfl⟩
    | succ j =>
      have hb := byte_at s (k := j) (by omega)
      have ht := hid (trim_take s 32 (k := j) (by omega))
      have ej : ((j + 1 : Nat) : Int) - 1 = (j : Int) := by omega
      have ew : IntKind.i64.wrap (((j + 1 : Nat) : Int) - 1) = (j : Int) := by rw [ej]; exact IntWalk.i64_in _ (by omega)
      have d0 : decide ((0 : Int) < ((j + 1 : Nat) : Int)) = true := by simp
      rcases Bool.eq_false_or_eq_true (((s[j]'(by omega)).toNat : Int) == 32) with q | q
      · have hn : Hid (trimR (s.extract 0 j) 32 = trimR s 32) := by
          unfold Hid
          rw [← hinv.out, ht.out, if_pos (by rw [← hb]; simpa using q)]
        clear hb
        go_wp2
        go_roundw
        case rel => exact ⟨⟨j, by omega, rfl, hn⟩, by trivial⟩
        case measure => simp [intOf]
      · have hn : Hid (s.extract 0 (j + 1) = trimR s 32) := by
          unfold Hid
          rw [← hinv.out, ht.out, if_neg (by rw [← hb]; simpa using q)]
        clear hb
        go_wp2
        go_ret
        exact ⟨by rw [← hn.out]; rfl, rfl⟩
def preB (a b : ByteArray) : Bool := decide (b.size ≤ a.size) && ((a.extract 0 b.size).toList == b.toList)
set_option maxRecDepth 100000 in
theorem Begins_any (a b : ByteArray) (w : World) : Calls Tryd.prog 76 #[.string a, .string b] w fun e w' => e = .returned (.bool (preB a b)) ∧ w = w' := by
  by_cases h : b.size ≤ a.size
  · have d1 : decide ((b.size : Int) ≤ (a.size : Int)) = true := by simp; omega
    have Fin : Hid (preB a b = ((a.extract 0 b.size).toList == b.toList)) := by unfold Hid preB; rw [decide_eq_true h]; rfl
    go_enter Tryd.func76, Tryd.ntmps76
    go_wp2
    go_ret
    exact ⟨ret_bool Fin.out.symm, rfl⟩
  · have d1 : decide ((b.size : Int) ≤ (a.size : Int)) = false := by simp; omega
    have Fin : Hid (preB a b = false) := by unfold Hid preB; rw [decide_eq_false h]; rfl
    go_enter Tryd.func76, Tryd.ntmps76
    go_wp2
    go_ret
    exact ⟨ret_bool Fin.out.symm, rfl⟩
set_option maxRecDepth 100000 in
theorem sHas_any (a b : ByteArray) (w : World) : Calls Tryd.prog 117 #[.string a, .string b] w fun e w' => e = .returned (.bool (preB a b)) ∧ w = w' := by
  by_cases h : b.size ≤ a.size
  · have d1 : decide ((b.size : Int) ≤ (a.size : Int)) = true := by simp; omega
    have Fin : Hid (preB a b = ((a.extract 0 b.size).toList == b.toList)) := by unfold Hid preB; rw [decide_eq_true h]; rfl
    go_enter Tryd.func117, Tryd.ntmps117
    go_wp2
    go_ret
    exact ⟨ret_bool Fin.out.symm, rfl⟩
  · have d1 : decide ((b.size : Int) ≤ (a.size : Int)) = false := by simp; omega
    have Fin : Hid (preB a b = false) := by unfold Hid preB; rw [decide_eq_false h]; rfl
    go_enter Tryd.func117, Tryd.ntmps117
    go_wp2
    go_ret
    exact ⟨ret_bool Fin.out.symm, rfl⟩
theorem HasPrefix_any (a b : ByteArray) (w : World) : Calls Tryd.prog 74 #[.string a, .string b] w fun e w' => e = .returned (.bool (preB a b)) ∧ w = w' := by
  go_enter Tryd.func74, Tryd.ntmps74
  go_wp2_with fail
  refine (sHas_any _ _ _).mono ?_
  rintro e w' ⟨rfl, rfl⟩
  go_wp2
  go_ret
  exact ⟨rfl, rfl⟩
def eqB (a b : ByteArray) (x : Bool) : Bool := if x then (trimR a 32).toList == (trimR b 32).toList else preB a b
set_option maxRecDepth 100000 in
theorem Equal_any (a b : ByteArray) (x : Bool) (ha : a.size ≤ maxLen) (hb : b.size ≤ maxLen) (w : World) : Calls Tryd.prog 25 #[.string a, .string b, .bool x] w fun e w' => e = .returned (.bool (eqB a b x)) ∧ w = w' := by
  cases x
  · go_enter Tryd.func25, Tryd.ntmps25
    go_wp2_with fail
    refine (HasPrefix_any _ _ _).mono ?_
    rintro e w' ⟨rfl, rfl⟩
    go_wp2
    go_ret
    exact ⟨rfl, rfl⟩
  · have Fin : Hid (eqB a b true = ((trimR a 32).toList == (trimR b 32).toList)) := rfl
    go_enter Tryd.func25, Tryd.ntmps25
    go_wp2_with fail
    refine (TrimRight_any _ ha _).mono ?_
    rintro e w' ⟨rfl, rfl⟩
    go_wp2_with fail
    refine (TrimRight_any _ hb _).mono ?_
    rintro e w' ⟨rfl, rfl⟩
    generalize trimR a 32 = A at *
    generalize trimR b 32 = B at *
    go_wp2
    go_ret
    exact ⟨ret_bool Fin.out.symm, rfl⟩
set_option maxRecDepth 100000 in
theorem rEqual_any (a b : ByteArray) (x : Bool) (ha : a.size ≤ maxLen) (hb : b.size ≤ maxLen) (w : World) : Calls Tryd.prog 26 #[.string a, .string b, .bool x] w fun e w' => e = .returned (.bool (eqB a b x)) ∧ w = w' := by
  cases x
  · go_enter Tryd.func26, Tryd.ntmps26
    go_wp2_with fail
    refine (Begins_any _ _ _).mono ?_
    rintro e w' ⟨rfl, rfl⟩
    go_wp2
    go_ret
    exact ⟨rfl, rfl⟩
  · have Fin : Hid (eqB a b true = ((trimR a 32).toList == (trimR b 32).toList)) := rfl
    go_enter Tryd.func26, Tryd.ntmps26
    go_wp2_with fail
    refine (Bare_any _ ha _).mono ?_
    rintro e w' ⟨rfl, rfl⟩
    go_wp2_with fail
    refine (Bare_any _ hb _).mono ?_
    rintro e w' ⟨rfl, rfl⟩
    generalize trimR a 32 = A at *
    generalize trimR b 32 = B at *
    go_wp2
    go_ret
    exact ⟨ret_bool Fin.out.symm, rfl⟩
set_option maxRecDepth 100000 in
set_option maxHeartbeats 2000000 in
theorem equals_law (a b : ByteArray) (x : Bool) (w : World) (ha : a.size ≤ maxLen) (hb : b.size ≤ maxLen) : Calls Tryd.prog 6 #[.string a, .string b, .bool x] w (Give (.bool true) w) := by
  have h1 := hid (fun w => Equal_any a b x ha hb w)
  have h2 := hid (fun w => rEqual_any a b x ha hb w)
  have ha := hid ha
  have hb := hid hb
  go_enter Tryd.func6, Tryd.ntmps6
  go_wp2_with fail
  · refine (known_any _).mono ?_
    rintro e w1 ⟨rfl, hx⟩
    go_wp2
    go_ret
    exact ⟨rfl, hx⟩
  · refine (h1.out _).mono ?_
    rintro e w' ⟨rfl, rfl⟩
    go_wp2_with fail
    refine (h2.out _).mono ?_
    rintro e w' ⟨rfl, rfl⟩
    generalize eqB a b x = y
    have hy : (y == y) = true := by simp
    go_wp2_with fail
    refine (known_any _).mono ?_
    rintro e w1 ⟨rfl, hx⟩
    go_wp2
    go_ret
    exact ⟨rfl, hx⟩
end Go.Proofs.YtkjcfnmbnddhjaaDoor
