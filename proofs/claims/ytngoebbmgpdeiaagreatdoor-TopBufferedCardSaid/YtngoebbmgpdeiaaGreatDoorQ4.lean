/-
  Contracts that were proved for another law's share, for this one; One page of characters, copied out of all; which bytes are characters: the program and the reference; What a value becomes in a field; whether a field can have it.
-/
import Derived.Test.YtngoebbmgpdeiaaGreatDoorProg
import Derived.Test.YtngoebbmgpdeiaaGreatDoorQ1
import Derived.Laws.IdiomStrings
import Derived.IntWalk
import Derived.Deep.MidRow
import Derived.Deep.Cut
import Derived.Test.YtngoebbmgpdeiaaGreatDoorQ3
set_option maxRecDepth 100000
set_option maxHeartbeats 40000000
set_option linter.unusedVariables false
set_option linter.unusedSimpArgs false
namespace Go.Proofs.YtngoebbmgpdeiaaGreatDoor.Pg
open Go.RowKit
def withinB (x lo hi : Int) : Bool := decide (lo ≤ x) && decide (x ≤ hi)
def isCapS (x p : Int) : Bool := withinB x 65 90 || (decide (p = 1) && withinB x 192 222 && x != 215) || (decide (p = 2) && withinB x 128 159)
def isSmallA (x p : Int) : Bool := withinB x 97 122 || (decide (p = 1) && withinB x 224 254 && x != 247) || (decide (p = 2) && withinB x 160 175)
def isSmallB (x p : Int) : Bool := decide (p = 2) && withinB x 224 239
def isSmallS (x p : Int) : Bool := isSmallA x p || isSmallB x p
def upS_ (x p : Int) : Int := if isSmallA x p then x - 32 else if isSmallB x p then x - 80 else x
def isLetS (x p : Int) : Bool := isSmallS x p || isCapS x p
def Pg (p : Int) : Prop := p = 0 ∨ p = 1 ∨ p = 2
theorem ret_bb {a b : Bool} {x y : Int} (h : x = y) (h' : a = b) : Ending.returned (.tuple #[.int .u8 x, .bool a]) = .returned (.tuple #[.int .u8 y, .bool b]) := by rw [h, h']
theorem within_any (x lo hi : Int) (w : World) : Calls Tryz.prog 478 #[.int .u8 x, .int .u8 lo, .int .u8 hi] w fun e w' => e = .returned (.bool (withinB x lo hi)) ∧ w = w' := by
  by_cases h1 : lo ≤ x
  · by_cases h2 : x ≤ hi
    · have d1 : decide (lo ≤ x) = true := by simpa using h1
      have d2 : decide (x ≤ hi) = true := by simpa using h2
      have Fin : Hid (withinB x lo hi = true) := by simp [Hid, withinB, h1, h2]
      go_enter Tryz.func478, Tryz.ntmps478
      go_wp2
      go_ret
      exact ⟨ret_bool Fin.out.symm, rfl⟩
    · have d1 : decide (lo ≤ x) = true := by simpa using h1
      have d2 : decide (x ≤ hi) = false := by simpa using h2
      have Fin : Hid (withinB x lo hi = false) := by simp [Hid, withinB]; omega
      go_enter Tryz.func478, Tryz.ntmps478
      go_wp2
      go_ret
      exact ⟨ret_bool Fin.out.symm, rfl⟩
  · have d1 : decide (lo ≤ x) = false := by simpa using h1
    have Fin : Hid (withinB x lo hi = false) := by simp [Hid, withinB]; omega
    go_enter Tryz.func478, Tryz.ntmps478
    go_wp2
    go_ret
    exact ⟨ret_bool Fin.out.symm, rfl⟩
theorem isCap_any (x p : Int) (hp : Pg p) (w : World) : Calls Tryz.prog 477 #[.int .u8 x, .int .i64 p] w fun e w' => e = .returned (.bool (isCapS x p)) ∧ w = w' := by
  rcases hp with rfl | rfl | rfl
  · rcases Bool.eq_false_or_eq_true (withinB x 65 90) with h1 | h1
    · go_enter Tryz.func477, Tryz.ntmps477
      go_wp2_with (go_at_call 478; refine (within_any _ _ _ _).mono ?_; rintro e w' ⟨rfl, rfl⟩)
      go_ret
      exact ⟨ret_bool (by simp [isCapS, h1]), rfl⟩
    · go_enter Tryz.func477, Tryz.ntmps477
      go_wp2_with (go_at_call 478; refine (within_any _ _ _ _).mono ?_; rintro e w' ⟨rfl, rfl⟩)
      go_ret
      exact ⟨ret_bool (by simp [isCapS, h1]), rfl⟩
  · rcases Bool.eq_false_or_eq_true (withinB x 65 90) with h1 | h1
    · rcases Bool.eq_false_or_eq_true (withinB x 192 222) with h2 | h2
      · rcases Bool.eq_false_or_eq_true (x != 215) with h3 | h3
        · go_enter Tryz.func477, Tryz.ntmps477
          go_wp2_with (go_at_call 478; refine (within_any _ _ _ _).mono ?_; rintro e w' ⟨rfl, rfl⟩)
          go_ret
          exact ⟨ret_bool (by simp [isCapS, h1, h2, h3]), rfl⟩
        · go_enter Tryz.func477, Tryz.ntmps477
          go_wp2_with (go_at_call 478; refine (within_any _ _ _ _).mono ?_; rintro e w' ⟨rfl, rfl⟩)
          go_ret
          exact ⟨ret_bool (by simp [isCapS, h1, h2, h3]), rfl⟩
      · rcases Bool.eq_false_or_eq_true (x != 215) with h3 | h3
        · go_enter Tryz.func477, Tryz.ntmps477
          go_wp2_with (go_at_call 478; refine (within_any _ _ _ _).mono ?_; rintro e w' ⟨rfl, rfl⟩)
          go_ret
          exact ⟨ret_bool (by simp [isCapS, h1, h2, h3]), rfl⟩
        · go_enter Tryz.func477, Tryz.ntmps477
          go_wp2_with (go_at_call 478; refine (within_any _ _ _ _).mono ?_; rintro e w' ⟨rfl, rfl⟩)
          go_ret
          exact ⟨ret_bool (by simp [isCapS, h1, h2, h3]), rfl⟩
    · rcases Bool.eq_false_or_eq_true (withinB x 192 222) with h2 | h2
      · rcases Bool.eq_false_or_eq_true (x != 215) with h3 | h3
        · go_enter Tryz.func477, Tryz.ntmps477
          go_wp2_with (go_at_call 478; refine (within_any _ _ _ _).mono ?_; rintro e w' ⟨rfl, rfl⟩)
          go_ret
          exact ⟨ret_bool (by simp [isCapS, h1, h2, h3]), rfl⟩
        · go_enter Tryz.func477, Tryz.ntmps477
          go_wp2_with (go_at_call 478; refine (within_any _ _ _ _).mono ?_; rintro e w' ⟨rfl, rfl⟩)
          go_ret
          exact ⟨ret_bool (by simp [isCapS, h1, h2, h3]), rfl⟩
      · rcases Bool.eq_false_or_eq_true (x != 215) with h3 | h3
        · go_enter Tryz.func477, Tryz.ntmps477
          go_wp2_with (go_at_call 478; refine (within_any _ _ _ _).mono ?_; rintro e w' ⟨rfl, rfl⟩)
          go_ret
          exact ⟨ret_bool (by simp [isCapS, h1, h2, h3]), rfl⟩
        · go_enter Tryz.func477, Tryz.ntmps477
          go_wp2_with (go_at_call 478; refine (within_any _ _ _ _).mono ?_; rintro e w' ⟨rfl, rfl⟩)
          go_ret
          exact ⟨ret_bool (by simp [isCapS, h1, h2, h3]), rfl⟩
  · rcases Bool.eq_false_or_eq_true (withinB x 65 90) with h1 | h1
    · rcases Bool.eq_false_or_eq_true (withinB x 128 159) with h4 | h4
      · go_enter Tryz.func477, Tryz.ntmps477
        go_wp2_with (go_at_call 478; refine (within_any _ _ _ _).mono ?_; rintro e w' ⟨rfl, rfl⟩)
        go_ret
        exact ⟨ret_bool (by simp [isCapS, h1, h4]), rfl⟩
      · go_enter Tryz.func477, Tryz.ntmps477
        go_wp2_with (go_at_call 478; refine (within_any _ _ _ _).mono ?_; rintro e w' ⟨rfl, rfl⟩)
        go_ret
        exact ⟨ret_bool (by simp [isCapS, h1, h4]), rfl⟩
    · rcases Bool.eq_false_or_eq_true (withinB x 128 159) with h4 | h4
      · go_enter Tryz.func477, Tryz.ntmps477
        go_wp2_with (go_at_call 478; refine (within_any _ _ _ _).mono ?_; rintro e w' ⟨rfl, rfl⟩)
        go_ret
        exact ⟨ret_bool (by simp [isCapS, h1, h4]), rfl⟩
      · go_enter Tryz.func477, Tryz.ntmps477
        go_wp2_with (go_at_call 478; refine (within_any _ _ _ _).mono ?_; rintro e w' ⟨rfl, rfl⟩)
        go_ret
        exact ⟨ret_bool (by simp [isCapS, h1, h4]), rfl⟩
theorem cap_any (x p : Int) (hp : Pg p) (w : World) (h0 : 0 ≤ x) (h255 : x ≤ 255) : Calls Tryz.prog 476 #[.int .u8 x, .int .i64 p] w fun e w' => e = .returned (.tuple #[.int .u8 (upS_ x p), .bool (isSmallS x p)]) ∧ w = w' := by
  rcases hp with rfl | rfl | rfl
  · rcases Bool.eq_false_or_eq_true (withinB x 97 122) with h1 | h1
    · go_enter Tryz.func476, Tryz.ntmps476
      go_wp2_with (go_at_call 478; refine (within_any _ _ _ _).mono ?_; rintro e w' ⟨rfl, rfl⟩)
      go_ret2
      exact ⟨ret_bb (by simp [upS_, isSmallA, isSmallB, h1]; try (simp [withinB] at h1; omega)) (by simp [isSmallS, isSmallA, isSmallB, h1]), rfl⟩
    · go_enter Tryz.func476, Tryz.ntmps476
      go_wp2_with (go_at_call 478; refine (within_any _ _ _ _).mono ?_; rintro e w' ⟨rfl, rfl⟩)
      go_ret2
      exact ⟨ret_bb (by simp [upS_, isSmallA, isSmallB, h1]; try (simp [withinB] at h1; omega)) (by simp [isSmallS, isSmallA, isSmallB, h1]), rfl⟩
  · rcases Bool.eq_false_or_eq_true (withinB x 97 122) with h1 | h1
    · rcases Bool.eq_false_or_eq_true (withinB x 224 254) with h2 | h2
      · rcases Bool.eq_false_or_eq_true (x != 247) with h3 | h3
        · go_enter Tryz.func476, Tryz.ntmps476
          go_wp2_with (go_at_call 478; refine (within_any _ _ _ _).mono ?_; rintro e w' ⟨rfl, rfl⟩)
          go_ret2
          exact ⟨ret_bb (by simp [upS_, isSmallA, isSmallB, h1, h2, h3]; try (simp [withinB] at h1 h2 h3; omega)) (by simp [isSmallS, isSmallA, isSmallB, h1, h2, h3]), rfl⟩
        · go_enter Tryz.func476, Tryz.ntmps476
          go_wp2_with (go_at_call 478; refine (within_any _ _ _ _).mono ?_; rintro e w' ⟨rfl, rfl⟩)
          go_ret2
          exact ⟨ret_bb (by simp [upS_, isSmallA, isSmallB, h1, h2, h3]; try (simp [withinB] at h1 h2 h3; omega)) (by simp [isSmallS, isSmallA, isSmallB, h1, h2, h3]), rfl⟩
      · rcases Bool.eq_false_or_eq_true (x != 247) with h3 | h3
        · go_enter Tryz.func476, Tryz.ntmps476
          go_wp2_with (go_at_call 478; refine (within_any _ _ _ _).mono ?_; rintro e w' ⟨rfl, rfl⟩)
          go_ret2
          exact ⟨ret_bb (by simp [upS_, isSmallA, isSmallB, h1, h2, h3]; try (simp [withinB] at h1 h2 h3; omega)) (by simp [isSmallS, isSmallA, isSmallB, h1, h2, h3]), rfl⟩
        · go_enter Tryz.func476, Tryz.ntmps476
          go_wp2_with (go_at_call 478; refine (within_any _ _ _ _).mono ?_; rintro e w' ⟨rfl, rfl⟩)
          go_ret2
          exact ⟨ret_bb (by simp [upS_, isSmallA, isSmallB, h1, h2, h3]; try (simp [withinB] at h1 h2 h3; omega)) (by simp [isSmallS, isSmallA, isSmallB, h1, h2, h3]), rfl⟩
    · rcases Bool.eq_false_or_eq_true (withinB x 224 254) with h2 | h2
      · rcases Bool.eq_false_or_eq_true (x != 247) with h3 | h3
        · go_enter Tryz.func476, Tryz.ntmps476
          go_wp2_with (go_at_call 478; refine (within_any _ _ _ _).mono ?_; rintro e w' ⟨rfl, rfl⟩)
          go_ret2
          exact ⟨ret_bb (by simp [upS_, isSmallA, isSmallB, h1, h2, h3]; try (simp [withinB] at h1 h2 h3; omega)) (by simp [isSmallS, isSmallA, isSmallB, h1, h2, h3]), rfl⟩
        · go_enter Tryz.func476, Tryz.ntmps476
          go_wp2_with (go_at_call 478; refine (within_any _ _ _ _).mono ?_; rintro e w' ⟨rfl, rfl⟩)
          go_ret2
          exact ⟨ret_bb (by simp [upS_, isSmallA, isSmallB, h1, h2, h3]; try (simp [withinB] at h1 h2 h3; omega)) (by simp [isSmallS, isSmallA, isSmallB, h1, h2, h3]), rfl⟩
      · rcases Bool.eq_false_or_eq_true (x != 247) with h3 | h3
        · go_enter Tryz.func476, Tryz.ntmps476
          go_wp2_with (go_at_call 478; refine (within_any _ _ _ _).mono ?_; rintro e w' ⟨rfl, rfl⟩)
          go_ret2
          exact ⟨ret_bb (by simp [upS_, isSmallA, isSmallB, h1, h2, h3]; try (simp [withinB] at h1 h2 h3; omega)) (by simp [isSmallS, isSmallA, isSmallB, h1, h2, h3]), rfl⟩
        · go_enter Tryz.func476, Tryz.ntmps476
          go_wp2_with (go_at_call 478; refine (within_any _ _ _ _).mono ?_; rintro e w' ⟨rfl, rfl⟩)
          go_ret2
          exact ⟨ret_bb (by simp [upS_, isSmallA, isSmallB, h1, h2, h3]; try (simp [withinB] at h1 h2 h3; omega)) (by simp [isSmallS, isSmallA, isSmallB, h1, h2, h3]), rfl⟩
  · rcases Bool.eq_false_or_eq_true (withinB x 97 122) with h1 | h1
    · rcases Bool.eq_false_or_eq_true (withinB x 160 175) with h4 | h4
      · rcases Bool.eq_false_or_eq_true (withinB x 224 239) with h5 | h5
        · go_enter Tryz.func476, Tryz.ntmps476
          go_wp2_with (go_at_call 478; refine (within_any _ _ _ _).mono ?_; rintro e w' ⟨rfl, rfl⟩)
          go_ret2
          exact ⟨ret_bb (by simp [upS_, isSmallA, isSmallB, h1, h4, h5]; try (simp [withinB] at h1 h4 h5; omega)) (by simp [isSmallS, isSmallA, isSmallB, h1, h4, h5]), rfl⟩
        · go_enter Tryz.func476, Tryz.ntmps476
          go_wp2_with (go_at_call 478; refine (within_any _ _ _ _).mono ?_; rintro e w' ⟨rfl, rfl⟩)
          go_ret2
          exact ⟨ret_bb (by simp [upS_, isSmallA, isSmallB, h1, h4, h5]; try (simp [withinB] at h1 h4 h5; omega)) (by simp [isSmallS, isSmallA, isSmallB, h1, h4, h5]), rfl⟩
      · rcases Bool.eq_false_or_eq_true (withinB x 224 239) with h5 | h5
        · go_enter Tryz.func476, Tryz.ntmps476
          go_wp2_with (go_at_call 478; refine (within_any _ _ _ _).mono ?_; rintro e w' ⟨rfl, rfl⟩)
          go_ret2
          exact ⟨ret_bb (by simp [upS_, isSmallA, isSmallB, h1, h4, h5]; try (simp [withinB] at h1 h4 h5; omega)) (by simp [isSmallS, isSmallA, isSmallB, h1, h4, h5]), rfl⟩
        · go_enter Tryz.func476, Tryz.ntmps476
          go_wp2_with (go_at_call 478; refine (within_any _ _ _ _).mono ?_; rintro e w' ⟨rfl, rfl⟩)
          go_ret2
          exact ⟨ret_bb (by simp [upS_, isSmallA, isSmallB, h1, h4, h5]; try (simp [withinB] at h1 h4 h5; omega)) (by simp [isSmallS, isSmallA, isSmallB, h1, h4, h5]), rfl⟩
    · rcases Bool.eq_false_or_eq_true (withinB x 160 175) with h4 | h4
      · rcases Bool.eq_false_or_eq_true (withinB x 224 239) with h5 | h5
        · go_enter Tryz.func476, Tryz.ntmps476
          go_wp2_with (go_at_call 478; refine (within_any _ _ _ _).mono ?_; rintro e w' ⟨rfl, rfl⟩)
          go_ret2
          exact ⟨ret_bb (by simp [upS_, isSmallA, isSmallB, h1, h4, h5]; try (simp [withinB] at h1 h4 h5; omega)) (by simp [isSmallS, isSmallA, isSmallB, h1, h4, h5]), rfl⟩
        · go_enter Tryz.func476, Tryz.ntmps476
          go_wp2_with (go_at_call 478; refine (within_any _ _ _ _).mono ?_; rintro e w' ⟨rfl, rfl⟩)
          go_ret2
          exact ⟨ret_bb (by simp [upS_, isSmallA, isSmallB, h1, h4, h5]; try (simp [withinB] at h1 h4 h5; omega)) (by simp [isSmallS, isSmallA, isSmallB, h1, h4, h5]), rfl⟩
      · rcases Bool.eq_false_or_eq_true (withinB x 224 239) with h5 | h5
        · go_enter Tryz.func476, Tryz.ntmps476
          go_wp2_with (go_at_call 478; refine (within_any _ _ _ _).mono ?_; rintro e w' ⟨rfl, rfl⟩)
          go_ret2
          exact ⟨ret_bb (by simp [upS_, isSmallA, isSmallB, h1, h4, h5]; try (simp [withinB] at h1 h4 h5; omega)) (by simp [isSmallS, isSmallA, isSmallB, h1, h4, h5]), rfl⟩
        · go_enter Tryz.func476, Tryz.ntmps476
          go_wp2_with (go_at_call 478; refine (within_any _ _ _ _).mono ?_; rintro e w' ⟨rfl, rfl⟩)
          go_ret2
          exact ⟨ret_bb (by simp [upS_, isSmallA, isSmallB, h1, h4, h5]; try (simp [withinB] at h1 h4 h5; omega)) (by simp [isSmallS, isSmallA, isSmallB, h1, h4, h5]), rfl⟩
theorem isLet_any (x p : Int) (hp : Pg p) (w : World) (h0 : 0 ≤ x) (h255 : x ≤ 255) : Calls Tryz.prog 455 #[.int .u8 x, .int .i64 p] w fun e w' => e = .returned (.bool (isLetS x p)) ∧ w = w' := by
  rcases Bool.eq_false_or_eq_true (isSmallS x p) with h | h
  · go_enter Tryz.func455, Tryz.ntmps455
    go_wp2_with fail
    refine (cap_any _ _ hp _ h0 h255).mono ?_
    rintro e w' ⟨rfl, rfl⟩
    go_wp2_with fail
    go_ret
    exact ⟨ret_bool (by simp [isLetS, h]), rfl⟩
  · go_enter Tryz.func455, Tryz.ntmps455
    go_wp2_with fail
    refine (cap_any _ _ hp _ h0 h255).mono ?_
    rintro e w' ⟨rfl, rfl⟩
    go_wp2_with fail
    refine (isCap_any _ _ hp _).mono ?_
    rintro e w' ⟨rfl, rfl⟩
    go_wp2_with fail
    go_ret
    exact ⟨ret_bool (by simp [isLetS, h]), rfl⟩
theorem upper_any (x p : Int) (hp : Pg p) (w : World) (h0 : 0 ≤ x) (h255 : x ≤ 255) : Calls Tryz.prog 456 #[.int .u8 x, .int .i64 p] w fun e w' => e = .returned (.int .u8 (upS_ x p)) ∧ w = w' := by
  go_enter Tryz.func456, Tryz.ntmps456
  go_wp2_with fail
  refine (cap_any _ _ hp _ h0 h255).mono ?_
  rintro e w' ⟨rfl, rfl⟩
  go_wp2_with fail
  go_ret
  exact ⟨rfl, rfl⟩
def plainS (x : Int) : Int :=
  if withinB x 192 197 then 65 else if x == 199 then 67 else if withinB x 200 203 then 69 else if withinB x 204 207 then 73 else if x == 209 then 78 else
  if withinB x 210 214 then 79 else if withinB x 217 220 then 85 else if x == 221 then 89 else x
def weightS (x p c : Int) : Int := if c == 0 || !isLetS x p then x else if p == 1 then plainS (upS_ x p) else upS_ x p
theorem plain_any (x : Int) (w : World) : Calls Tryz.prog 457 #[.int .u8 x] w fun e w' => e = .returned (.int .u8 (plainS x)) ∧ w = w' := by
  rcases Bool.eq_false_or_eq_true (withinB x 192 197) with a1 | a1
  · go_enter Tryz.func457, Tryz.ntmps457
    go_wp2_with (go_at_call 478; refine (within_any _ _ _ _).mono ?_; rintro e w' ⟨rfl, rfl⟩)
    go_ret
    exact ⟨ret_int (by simp [plainS, a1]), rfl⟩
  · rcases Bool.eq_false_or_eq_true (x == 199) with a2 | a2
    · go_enter Tryz.func457, Tryz.ntmps457
      go_wp2_with (go_at_call 478; refine (within_any _ _ _ _).mono ?_; rintro e w' ⟨rfl, rfl⟩)
      go_ret
      exact ⟨ret_int (by simp [plainS, a1, a2]), rfl⟩
    · rcases Bool.eq_false_or_eq_true (withinB x 200 203) with a3 | a3
      · go_enter Tryz.func457, Tryz.ntmps457
        go_wp2_with (go_at_call 478; refine (within_any _ _ _ _).mono ?_; rintro e w' ⟨rfl, rfl⟩)
        go_ret
        exact ⟨ret_int (by simp [plainS, a1, a2, a3]), rfl⟩
      · rcases Bool.eq_false_or_eq_true (withinB x 204 207) with a4 | a4
        · go_enter Tryz.func457, Tryz.ntmps457
          go_wp2_with (go_at_call 478; refine (within_any _ _ _ _).mono ?_; rintro e w' ⟨rfl, rfl⟩)
          go_ret
          exact ⟨ret_int (by simp [plainS, a1, a2, a3, a4]), rfl⟩
        · rcases Bool.eq_false_or_eq_true (x == 209) with a5 | a5
          · go_enter Tryz.func457, Tryz.ntmps457
            go_wp2_with (go_at_call 478; refine (within_any _ _ _ _).mono ?_; rintro e w' ⟨rfl, rfl⟩)
            go_ret
            exact ⟨ret_int (by simp [plainS, a1, a2, a3, a4, a5]), rfl⟩
          · rcases Bool.eq_false_or_eq_true (withinB x 210 214) with a6 | a6
            · go_enter Tryz.func457, Tryz.ntmps457
              go_wp2_with (go_at_call 478; refine (within_any _ _ _ _).mono ?_; rintro e w' ⟨rfl, rfl⟩)
              go_ret
              exact ⟨ret_int (by simp [plainS, a1, a2, a3, a4, a5, a6]), rfl⟩
            · rcases Bool.eq_false_or_eq_true (withinB x 217 220) with a7 | a7
              · go_enter Tryz.func457, Tryz.ntmps457
                go_wp2_with (go_at_call 478; refine (within_any _ _ _ _).mono ?_; rintro e w' ⟨rfl, rfl⟩)
                go_ret
                exact ⟨ret_int (by simp [plainS, a1, a2, a3, a4, a5, a6, a7]), rfl⟩
              · rcases Bool.eq_false_or_eq_true (x == 221) with a8 | a8
                · go_enter Tryz.func457, Tryz.ntmps457
                  go_wp2_with (go_at_call 478; refine (within_any _ _ _ _).mono ?_; rintro e w' ⟨rfl, rfl⟩)
                  go_ret
                  exact ⟨ret_int (by simp [plainS, a1, a2, a3, a4, a5, a6, a7, a8]), rfl⟩
                · go_enter Tryz.func457, Tryz.ntmps457
                  go_wp2_with (go_at_call 478; refine (within_any _ _ _ _).mono ?_; rintro e w' ⟨rfl, rfl⟩)
                  go_ret
                  exact ⟨ret_int (by simp [plainS, a1, a2, a3, a4, a5, a6, a7, a8]), rfl⟩
theorem weight_any (x p c : Int) (hp : Pg p) (w : World) (h0 : 0 ≤ x) (h255 : x ≤ 255) : Calls Tryz.prog 415 #[.int .u8 x, .int .i64 p, .int .i64 c] w fun e w' => e = .returned (.int .u8 (weightS x p c)) ∧ w = w' := by
  rcases Bool.eq_false_or_eq_true (c == 0) with hc | hc
  · go_enter Tryz.func415, Tryz.ntmps415
    go_wp2_with fail
    go_ret
    exact ⟨ret_int (by simp [weightS, hc]), rfl⟩
  · rcases Bool.eq_false_or_eq_true (isLetS x p) with hl | hl
    · rcases Bool.eq_false_or_eq_true (p == 1) with h1 | h1
      · go_enter Tryz.func415, Tryz.ntmps415
        go_wp2_with fail
        refine (isLet_any _ _ hp _ h0 h255).mono ?_
        rintro e w' ⟨rfl, rfl⟩
        go_wp2_with fail
        refine (upper_any _ _ hp _ h0 h255).mono ?_
        rintro e w' ⟨rfl, rfl⟩
        go_wp2_with fail
        refine (plain_any _ _).mono ?_
        rintro e w' ⟨rfl, rfl⟩
        go_wp2_with fail
        go_ret
        exact ⟨ret_int (by simp [weightS, hc, hl, h1]), rfl⟩
      · go_enter Tryz.func415, Tryz.ntmps415
        go_wp2_with fail
        refine (isLet_any _ _ hp _ h0 h255).mono ?_
        rintro e w' ⟨rfl, rfl⟩
        go_wp2_with fail
        refine (upper_any _ _ hp _ h0 h255).mono ?_
        rintro e w' ⟨rfl, rfl⟩
        go_wp2_with fail
        go_ret
        exact ⟨ret_int (by simp [weightS, hc, hl, h1]), rfl⟩
    · go_enter Tryz.func415, Tryz.ntmps415
      go_wp2_with fail
      refine (isLet_any _ _ hp _ h0 h255).mono ?_
      rintro e w' ⟨rfl, rfl⟩
      go_wp2_with fail
      go_ret
      exact ⟨ret_int (by simp [weightS, hl]), rfl⟩
def strs (l : List ByteArray) : List Value := l.map Value.string
def RdS (w : World) (A : Option Addr) (n c : Nat) (l : List ByteArray) : Prop := Rd w 1 A n c (strs l)
def sth (l : List ByteArray) (k : Nat) : ByteArray := l.getD k ByteArray.empty
section
variable {w w' : World} {n c : Nat} {A : Option Addr} {l : List ByteArray}
theorem RdS.len (h : RdS w A n c l) : l.length = n := by have := h.1; simpa [strs] using this
theorem RdS.max (h : RdS w A n c l) : n ≤ 9223372036854775807 ∧ n ≤ c ∧ c ≤ 9223372036854775807 := Rd.max h
theorem RdS.at_ (h : RdS w A n c l) {k : Nat} (hk : k < n) : ∃ ad, A = some ad ∧ w.cell? (ad.add k) = some (.string (sth l k)) := by
  obtain ⟨ad, hA, hc⟩ := h.2.2.2 (by omega)
  have hl := h.len
  exact ⟨ad, hA, hc k _ (by simp [strs, sth, List.getD, hl, hk])⟩
theorem RdS.ext (h : RdS w A n c l) (hb : Ext w w') : RdS w' A n c l := Rd.ext h hb
end
theorem Rd.new_ (w : World) (cs : List Value) (t : TypeId) (n : Nat) (hn : cs.length = n) (hm : n ≤ maxLen) : Rd (w.alloc (.cells cs.toArray t)) 1 (some ⟨w.heap.size, 0, none⟩) n n cs :=
  ⟨by omega, Nat.le_refl _, hm, fun _ => ⟨_, rfl, World.news_of_block (cs := cs.toArray) (heap_alloc_new w _)⟩⟩
theorem RdS.new1 (w : World) (s : ByteArray) (t : TypeId) : RdS (w.alloc (.cells #[.string s] t)) (some ⟨w.heap.size, 0, none⟩) 1 1 [s] := Rd.new_ w [.string s] t 1 rfl (by decide)
def longTo (l : List ByteArray) (k : Nat) : Bool := (l.take k).any fun s => decide (2048 < s.size)
theorem longTo_succ (l : List ByteArray) (k : Nat) (hk : k < l.length) : longTo l (k + 1) = (longTo l k || decide (2048 < (sth l k).size)) := by
  unfold longTo
  rw [List.take_succ_eq_append_getElem hk, List.any_append, show sth l k = l[k] by simp [sth, List.getD, hk]]
  simp only [List.any_cons, List.any_nil, Bool.or_false]
theorem long_of (l : List ByteArray) (k : Nat) (hk : k < l.length) (h : 2048 < (sth l k).size) : longTo l l.length = true := by
  unfold longTo
  rw [List.take_length, List.any_eq_true]
  exact ⟨sth l k, by simp [sth, List.getD, hk], by simpa using h⟩
def pgB (p : Int) : Bool := decide (p < 0) || decide (2 < p)
def askE (p : Int) (l : List ByteArray) : Int := if longTo l l.length then 3 else if pgB p then 1 else 0
theorem asked_any (p : Int) (A : Option Addr) (n c : Nat) (l : List ByteArray) (w : World) (hs : RdS w A n c l) :
    Calls Tryz.prog 161 #[.int .i64 p, .slice A n c] w fun e w' => e = .returned (.int .i64 (askE p l)) ∧ w = w' := by
  have Hl := hid hs.len
  have hm := hs.max
  go_enter Tryz.func161, Tryz.ntmps161
  go_wp2_with fail
  go_loopw [9] (fun i wr => (∃ k : Nat, k ≤ n ∧ i = .int .i64 k ∧ Hid (longTo l k = false)) ∧ wr = w) (fun i _ => n - (intOf i).toNat)
  case atStart => exact ⟨⟨0, by omega, rfl, (rfl : longTo l 0 = false)⟩, rfl⟩
  case round =>
    obtain ⟨⟨k, hk, rfl, hno⟩, rfl⟩ := hrel
    by_cases hlt : k < n
    · obtain ⟨ad, rfl, hc⟩ := hs.at_ hlt
      have hlt' : k < l.length := by rw [Hl.out]; exact hlt
      by_cases hbig : 2048 < (sth l k).size
      · have Fin : Hid (askE p l = 3) := by unfold Hid askE; rw [long_of l k hlt' hbig]; rfl
        have e1 : decide ((2048 : Int) < ((sth l k).size : Int)) = true := by simp; omega
        clear hlt' hbig
        go_wp2
        go_ret
        exact ⟨ret_int Fin.out.symm, rfl⟩
      · have e1 : decide ((2048 : Int) < ((sth l k).size : Int)) = false := by simp; omega
        have hn2 : Hid (longTo l (k + 1) = false) := by unfold Hid; rw [longTo_succ l k hlt', hno.out]; simp; omega
        clear hlt' hbig
        go_wp2
        go_roundw
        case rel => exact ⟨⟨k + 1, by omega, by go_num, hn2⟩, by trivial⟩
        case measure => simp [intOf]; omega
    · have hno' : Hid (longTo l l.length = false) := by
        have e : k = l.length := by rw [Hl.out]; omega
        rw [← e]; exact hno
      by_cases h1 : p < 0
      · have e1 : decide (p < 0) = true := by simpa using h1
        have Fin : Hid (askE p l = 1) := by unfold Hid askE pgB; rw [hno'.out, e1]; rfl
        clear h1
        go_wp2
        go_ret
        exact ⟨ret_int Fin.out.symm, rfl⟩
      · have e1 : decide (p < 0) = false := by simpa using h1
        by_cases h2 : 2 < p
        · have e2 : decide (2 < p) = true := by simpa using h2
          have Fin : Hid (askE p l = 1) := by unfold Hid askE pgB; rw [hno'.out, e1, e2]; rfl
          clear h1 h2
          go_wp2
          go_ret
          exact ⟨ret_int Fin.out.symm, rfl⟩
        · have e2 : decide (2 < p) = false := by simpa using h2
          have Fin : Hid (askE p l = 0) := by unfold Hid askE pgB; rw [hno'.out, e1, e2]; rfl
          clear h1 h2
          go_wp2
          go_ret
          exact ⟨ret_int Fin.out.symm, rfl⟩
def byt (b : UInt8) : Value := .int .u8 (b.toNat : Int)
def bytesC (l : List UInt8) : List Value := l.map byt
def RdB (w : World) (A : Option Addr) (n c : Nat) (l : List UInt8) : Prop := Rd w 1 A n c (bytesC l)
theorem RdB.len {w : World} {A : Option Addr} {n c : Nat} {l : List UInt8} (h : RdB w A n c l) : l.length = n := by have := h.1; simpa [bytesC] using this
theorem RdB.ext {w w' : World} {A : Option Addr} {n c : Nat} {l : List UInt8} (h : RdB w A n c l) (hb : Ext w w') : RdB w' A n c l := Rd.ext h hb
def bOf (x : Int) : UInt8 := UInt8.ofNat x.toNat
theorem bOf_val (x : Int) (h0 : 0 ≤ x) (h1 : x ≤ 255) : ((bOf x).toNat : Int) = x := by
  unfold bOf
  rw [UInt8.toNat_ofNat']
  omega
def bth (l : List UInt8) (k : Nat) : Int := ((l.getD k 0).toNat : Int)
def strB (l : List UInt8) : ByteArray := ⟨l.toArray⟩
theorem strB_toList (l : List UInt8) : (strB l).toList = l := by rw [ByteArray.toList_eq]; rfl
def Bk (w : World) (g n : Nat) (l : List UInt8) : Prop := l.length = n ∧ ∀ j, j < n → w.cell? ⟨g, j, none⟩ = some (.int .u8 (bth l j)) ∧ w.frozen? ⟨g, j, none⟩ = false
theorem Bk.ext {w w' : World} {g n : Nat} {l : List UInt8} (h : Bk w g n l) (hb : Ext w w') : Bk w' g n l := ⟨h.1, fun j hj => ⟨hb.cell (h.2 j hj).1, by rw [hb.frozen (World.block_lt_of_cell? w _ (h.2 j hj).1)]; exact (h.2 j hj).2⟩⟩
theorem Bk.set {w : World} {g n : Nat} {l : List UInt8} (h : Bk w g n l) {k : Nat} (hk : k < n) (x : Int) (h0 : 0 ≤ x) (h1 : x ≤ 255) : Bk (w.setCell ⟨g, k, none⟩ (.int .u8 x)) g n (l.set k (bOf x)) := by
  refine ⟨by rw [List.length_set]; exact h.1, fun j hj => ⟨?_, by rw [World.frozen?_setCell]; exact (h.2 j hj).2⟩⟩
  have hl := h.1
  by_cases e : j = k
  · subst e
    rw [World.cell?_setCell_same _ _ _ (h.2 j hj).1]
    simp [bth, List.getD, hl, hj, bOf_val x h0 h1]
  · rw [World.cell?_setCell_other _ _ _ _ (by intro e'; injection e' with _ e' _; exact e e'.symm), (h.2 j hj).1]
    simp [bth, List.getD, List.getElem?_set, Ne.symm e]
theorem Bk.rd {w : World} {g n c : Nat} {l : List UInt8} (h : Bk w g n l) (hc : n ≤ c) (hm : c ≤ maxLen) : RdB w (some ⟨g, 0, none⟩) n c l := by
  refine ⟨by simp [bytesC]; exact h.1, hc, hm, fun _ => ⟨_, rfl, fun j u hu => ?_⟩⟩
  have hj : j < n := by have := (List.getElem?_eq_some_iff.1 hu).1; simp [bytesC] at this; have := h.1; omega
  have hadd : (⟨g, 0, none⟩ : Addr).add j = ⟨g, j, none⟩ := by unfold Addr.add; split <;> simp_all
  have hl := h.1
  rw [hadd, (h.2 j hj).1, ← hu]
  simp [bytesC, byt, bth, List.getD, hl, hj]
def capB (w : World) (s : ByteArray) : Nat := grownCap w s.size 0 5
def newB (w : World) (s : ByteArray) : World := w.drew.alloc (.cells (bytesRow s (capB w s)) 5 ((bytesRow s (capB w s)).size, (bytesRow s (capB w s)).size + 1))
theorem conv_new (w : World) (s : ByteArray) : (convert 9 94 (.string s)).run Tryz.prog w = .ok (.slice (some ⟨w.heap.size, 0, none⟩) s.size (capB w s)) (newB w s) :=
  run_bytes_of_string w 9 94 5 s Tryz.underlying9 Tryz.underlying94 Tryz.underlying5
theorem newB_ext (w : World) (s : ByteArray) : Ext w (newB w s) := Ext.alloc_right ((Ext.refl w).drew_right) _
theorem capB_in (w : World) (s : ByteArray) (h : s.size ≤ 1000000) : s.size ≤ capB w s ∧ capB w s ≤ maxLen := ⟨grownCap_ge _ _ _ _, grownCap_le_maxLen _ _ _ _ (by unfold maxLen; omega)⟩
theorem newB_bk (w : World) (s : ByteArray) : Bk (newB w s) w.heap.size s.size s.toList := by
  have hb : (newB w s).heap[w.heap.size]? = some (.cells (bytesRow s (capB w s)) 5 ((bytesRow s (capB w s)).size, (bytesRow s (capB w s)).size + 1)) := heap_alloc_new w.drew _
  have hc := grownCap_ge w s.size 0 5
  have hsz : s.toList.length = s.size := by rw [ByteArray.toList_eq]; rfl
  have hrow : s.size ≤ (bytesRow s (capB w s)).size := by unfold bytesRow; rw [Array.size_append, Array.size_map]; exact Nat.le_add_right _ _
  refine ⟨hsz, fun j hj => ⟨?_, ?_⟩⟩
  · rw [cell_of_row _ w.heap.size j _ 5 _ hb]
    have hj' : j < s.data.size := hj
    unfold bytesRow
    rw [Array.getElem?_append_left (by rw [Array.size_map]; exact hj'), Array.getElem?_map]
    simp [bth, List.getD, ByteArray.toList_eq]
    have hd : s.data[j]? = some s.data[j] := by simp [hj']
    exact ⟨s.data[j], hd, by rw [hd]; rfl⟩
  · unfold World.frozen?
    rw [hb]
    simp
    intro h
    omega
attribute [local go_sem] conv_new
attribute [local go_sem] conv_new
theorem ask_ok {p : Int} {s : ByteArray} (h : askE p [s] = 0) : s.size ≤ 2048 ∧ Pg p := by
  unfold askE at h
  split at h
  · cases h
  · rename_i h1
    split at h
    · cases h
    · rename_i h2
      refine ⟨?_, ?_⟩
      · have : ¬ 2048 < s.size := by
          intro h3
          exact h1 (by simp [longTo, h3])
        omega
      · unfold Pg
        simp [pgB] at h2
        omega
attribute [local go_sem] conv_new
theorem RdS.alloc {w : World} {A : Option Addr} {n c : Nat} {l : List ByteArray} (h : RdS w A n c l) (o : Obj) : RdS (w.alloc o) A n c l := Rd.alloc h o
theorem RdI.new1 (w : World) (x : Int) (t : TypeId) : RdI (w.alloc (.cells #[.int .i64 x] t)) (some ⟨w.heap.size, 0, none⟩) 1 1 [x] := Rd.new_ w [.int .i64 x] t 1 rfl (by decide)
end Go.Proofs.YtngoebbmgpdeiaaGreatDoor.Pg
namespace Go.Proofs.YtngoebbmgpdeiaaGreatDoor.Pg
open Go.RowKit
def chS (p b : Nat) : Int := if p = 1 then b else if b < 128 then b else if p = 2 then (if b ≤ 175 then (b : Int) - 128 + 1040 else if 224 ≤ b ∧ b ≤ 239 then (b : Int) - 224 + 1088 else -1) else -1
def pgAll (i : Nat) : Int := chS (i / 256) (i % 256)
def i32s (f : Nat → Int) (n : Nat) : List Value := (List.range n).map fun i => .int .i32 (f i)
theorem i32s_len (f : Nat → Int) (n : Nat) : (i32s f n).length = n := by simp [i32s]
theorem i32s_at (f : Nat → Int) {n i : Nat} (h : i < n) : (i32s f n)[i]? = some (.int .i32 (f i)) := by simp [i32s, h]
theorem i32s_one (f : Nat → Int) (n : Nat) : ∀ v ∈ i32s f n, v.oneCell' = true := by
  intro v hv
  obtain ⟨_, _, rfl⟩ := List.mem_map.1 hv
  rfl
def Bi (w : World) (g n : Nat) (f : Nat → Int) : Prop := ∀ k, k < n → w.cell? ⟨g, k, none⟩ = some (.int .i32 (f k)) ∧ w.frozen? ⟨g, k, none⟩ = false
theorem Bi.ext {w w' : World} {g n : Nat} {f : Nat → Int} (h : Bi w g n f) (hb : Ext w w') : Bi w' g n f := fun j hj => ⟨hb.cell (h j hj).1, by rw [hb.frozen (World.block_lt_of_cell? w _ (h j hj).1)]; exact (h j hj).2⟩
theorem Bi.congr {w : World} {g n : Nat} {f f' : Nat → Int} (h : Bi w g n f) (e : ∀ k, k < n → f k = f' k) : Bi w g n f' := fun j hj => by rw [← e j hj]; exact h j hj
theorem Bi.set {w : World} {g n : Nat} {f f' : Nat → Int} (h : Bi w g n f) {k : Nat} {x : Int} (e : ∀ j, j < n → f' j = if j = k then x else f j) : Bi (w.setCell ⟨g, k, none⟩ (.int .i32 x)) g n f' := by
  intro j hj
  refine ⟨?_, by rw [World.frozen?_setCell]; exact (h j hj).2⟩
  rw [e j hj]
  by_cases e : j = k
  · subst e
    rw [World.cell?_setCell_same _ _ _ (h j hj).1, if_pos rfl]
  · rw [World.cell?_setCell_other _ _ _ _ (by intro e'; injection e' with _ e' _; exact e e'.symm), (h j hj).1, if_neg e]
theorem Bi.far {w : World} {g n : Nat} {f : Nat → Int} (h : Bi w g n f) {p : Addr} (hp : p.block ≠ g) (v : Value) : Bi (w.setCell p v) g n f := fun j hj => ⟨cell_far (h j hj).1 hp, by rw [World.frozen?_setCell]; exact (h j hj).2⟩
theorem Bi.range {w : World} {g n : Nat} {f : Nat → Int} (h : Bi w g n f) : w.rangeAt g 0 (i32s f n) := fun j v hv => by
  have hj : j < n := by have := (List.getElem?_eq_some_iff.1 hv).1; rwa [i32s_len] at this
  rw [i32s_at f hj] at hv
  rw [Nat.zero_add, (h j hj).1]
  exact hv
theorem Bi.part {w : World} {g n o m : Nat} {f : Nat → Int} (h : Bi w g n f) (hm : o + m ≤ n) : w.rangeAt g o (i32s (fun i => f (o + i)) m) := fun j v hv => by
  have hj : j < m := by have := (List.getElem?_eq_some_iff.1 hv).1; rwa [i32s_len] at this
  rw [i32s_at _ hj] at hv
  rw [(h (o + j) (by omega)).1]
  exact hv
theorem Bi.there {w : World} {g n : Nat} {f : Nat → Int} (h : Bi w g n f) : w.there g 0 n := fun j hj => by
  rw [Nat.zero_add]
  exact ⟨by rw [(h j hj).1]; rfl, (h j hj).2⟩
def zer (n : Nat) : Array Value := (i32s (fun _ => 0) n).toArray
theorem Bi.new (w : World) (f : Nat → Int) (n : Nat) (t : TypeId) : Bi (w.alloc (.cells (i32s f n).toArray t)) w.heap.size n f := by
  have hb : (w.alloc (.cells (i32s f n).toArray t)).heap[w.heap.size]? = some (.cells (i32s f n).toArray t) := heap_alloc_new w _
  refine fun j hj => ⟨?_, ?_⟩
  · rw [cell_of_row _ w.heap.size j _ t _ hb]
    simpa using i32s_at f hj
  · unfold World.frozen?
    rw [hb]
    simp
theorem wpList_val {P : Program} {ops : Array Oper} {rest : List Oper} {op : Oper} {a : Act} {w w' : World} {v : Value} {Q : Exit → Act → World → Prop} (hgd : op.guard = none)
    (hr : (execOp a.eval op).run P w = .ok (.value v) w') (h : wpList P ops Q rest (a.put op.dst v) w') : wpList P ops Q (op :: rest) a w :=
  wpList_plain hgd fun _ hK => by unfold Oper.wp; rw [hr, Oper.upon_value]; exact hK _ _ h
theorem wpList_alloc {P : Program} {ops : Array Oper} {rest : List Oper} {op : Oper} {a : Act} {w : World} {Q : Exit → Act → World → Prop} {t : TypeId} {zs : Array Value} (hgd : op.guard = none) (ho : op.op = .alloc t)
    (hz : ∀ w, (zeroValue t).run P w = .ok (.agg zs) w)
    (h : wpList P ops Q rest (a.put op.dst (.pointer (some ⟨w.heap.size, 0, none⟩))) (w.alloc (.cells zs t))) : wpList P ops Q (op :: rest) a w := by
  refine wpList_val hgd ?_ h
  unfold execOp
  simp [ho, go_sem, hz]
theorem zero59 (w : World) : (zeroValue 230).run Tryz.prog w = .ok (.agg (zer 768)) w := by
  have h : (Tryz.prog.info? 230).map (·.zero) = some (some (.agg (zer 768))) := by kernel_rfl
  cases hq : Tryz.prog.info? 230 with
  | none => rw [hq] at h; cases h
  | some i =>
    rw [hq] at h
    simp at h
    simp [zeroValue, typeInfo, hq, h]
theorem info59 : (Tryz.prog.info? 230).map (·.size) = some 768 := by kernel_rfl
theorem info58 : (Tryz.prog.info? 229).map (·.size) = some 256 := by kernel_rfl
theorem i32_in (x : Int) (h0 : -2147483648 ≤ x) (h1 : x ≤ 2147483647) : IntKind.i32.wrap x = x := by simp [IntKind.wrap, IntKind.bits, IntKind.signed]; omega
theorem Bi.set_ {w : World} {g n : Nat} {f : Nat → Int} (h : Bi w g n f) (k : Nat) (x : Int) : Bi (w.setCell ⟨g, k, none⟩ (.int .i32 x)) g n (fun j => if j = k then x else f j) := h.set fun _ _ => rfl
theorem Ext.sets {a : World} (g : Nat) (hg : a.heap.size ≤ g) : ∀ (vs : List Value) (o : Nat) (b : World), Ext a b → Ext a (b.setCells g o vs)
  | [], _, _, h => h
  | v :: r, o, b, h => by
    rw [World.setCells]
    exact Ext.sets g hg r (o + 1) _ (h.set (p := ⟨g, o, none⟩) hg v)
theorem results_cell {P : Program} {fn : Func} {p : Tmp} {ty : TypeId} (h : fn.results = #[.cell p ty]) (tmps : Array Value) (w : World) :
    (results fn tmps).run P w = ((asAddr (tmps.getD p undef)).run P w).andThen fun a w₁ => ((loadVar ty a).run P w₁).andThen fun v w₂ => .ok v w₂ := by
  simp only [results, h]
  simp [Sem.run_bind, Result.andThen]
  all_goals (cases (asAddr (tmps[p]?.getD undef)).run P w <;> simp)
  all_goals (rename_i a w1; cases (loadVar ty a).run P w1 <;> simp)
def p1 (k i : Nat) : Int := if i % 256 < k then (if i / 256 = 1 then ((i % 256 : Nat) : Int) else if i % 256 < 128 then ((i % 256 : Nat) : Int) else -1) else 0
def p2 (k i : Nat) : Int := if i / 256 = 2 ∧ 128 ≤ i % 256 ∧ i % 256 < k then ((i % 256 : Nat) : Int) - 128 + 1040 else p1 256 i
def p3 (k i : Nat) : Int := if i / 256 = 2 ∧ 224 ≤ i % 256 ∧ i % 256 < k then ((i % 256 : Nat) : Int) - 224 + 1088 else p2 176 i
theorem p1_lo {k : Nat} (hk : k < 128) : ∀ i, i < 768 → (if i = 512 + k then (k : Int) else if i = k then (k : Int) else if i = 256 + k then (k : Int) else p1 k i) = p1 (k + 1) i := by
  intro i hi
  unfold p1
  repeat' split
  all_goals omega
theorem p1_hi {k : Nat} (hk : 128 ≤ k) (hk2 : k < 256) : ∀ i, i < 768 → (if i = 512 + k then (-1 : Int) else if i = k then (-1 : Int) else if i = 256 + k then (k : Int) else p1 k i) = p1 (k + 1) i := by
  intro i hi
  unfold p1
  repeat' split
  all_goals omega
theorem p1_0 : ∀ i, i < 768 → (0 : Int) = p1 0 i := fun i _ => by unfold p1; rw [if_neg (by omega)]
theorem p2_0 : ∀ i, i < 768 → p1 256 i = p2 128 i := fun i _ => by unfold p2; rw [if_neg (by omega)]
theorem p2_step {k : Nat} (hk : 128 ≤ k) (hk2 : k < 176) : ∀ i, i < 768 → (if i = 512 + k then (k : Int) - 128 + 1040 else p2 k i) = p2 (k + 1) i := by
  intro i hi
  unfold p2
  repeat' split
  all_goals first | omega | rfl
theorem p3_0 : ∀ i, i < 768 → p2 176 i = p3 224 i := fun i _ => by unfold p3; rw [if_neg (by omega)]
theorem p3_step {k : Nat} (hk : 224 ≤ k) (hk2 : k < 240) : ∀ i, i < 768 → (if i = 512 + k then (k : Int) - 224 + 1088 else p3 k i) = p3 (k + 1) i := by
  intro i hi
  unfold p3
  repeat' split
  all_goals first | omega | rfl
theorem p3_all : ∀ i, i < 768 → p3 240 i = pgAll i := by
  intro i hi
  unfold p3 p2 p1 pgAll chS
  repeat' split
  all_goals omega
theorem pages_any (w : World) : Calls Tryz.prog 162 #[] w fun e w' => e = .returned (.agg (i32s pgAll 768).toArray) ∧ Ext w w' := by
  go_enter Tryz.func162, Tryz.ntmps162
  go_wp2_with (with_reducible refine wpList_alloc rfl rfl zero59 ?_)
  have hr0 := hid (show Bi ((w.alloc (.cells (zer 768) 230)).alloc (.cells (zer 768) 230)) w.heap.size 768 (fun _ => 0) from (Bi.new w _ 768 _).ext ((Ext.refl _).alloc_right _))
  have hb0 := hid (show Bi ((w.alloc (.cells (zer 768) 230)).alloc (.cells (zer 768) 230)) (w.heap.size + 1) 768 (p1 0) from by
    have := Bi.new (w.alloc (.cells (zer 768) 230)) (fun _ => 0) 768 230
    rw [show (w.alloc (.cells (zer 768) 230)).heap.size = w.heap.size + 1 by simp] at this
    exact this.congr p1_0)
  have hx0 := hid (show Ext w ((w.alloc (.cells (zer 768) 230)).alloc (.cells (zer 768) 230)) from ((Ext.refl w).alloc_right _).alloc_right _)
  generalize (w.alloc (.cells (zer 768) 230)).alloc (.cells (zer 768) 230) = w0 at *
  go_loopw [6] (fun i wr => ∃ k : Nat, k ≤ 256 ∧ i = .int .i64 k ∧ Hid (Bi wr (w.heap.size + 1) 768 (p1 k)) ∧ Hid (Bi wr w.heap.size 768 (fun _ => 0)) ∧ Hid (Ext w wr)) (fun i _ => 256 - (intOf i).toNat)
  case atStart => exact ⟨0, by omega, rfl, hb0, hr0, hx0⟩
  case round =>
    clear hb0 hr0 hx0
    obtain ⟨k, hk, rfl, hb, hr, hx⟩ := hrel
    by_cases hlt : k < 256
    · have c1 := (hb.out (256 + k) (by omega)).1
      have c2 := (hb.out k (by omega)).1
      have c3 := (hb.out (512 + k) (by omega)).1
      have f1 := (hb.out (256 + k) (by omega)).2
      have f2 := (hb.out k (by omega)).2
      have f3 := (hb.out (512 + k) (by omega)).2
      have lb : w.heap.size + 1 < wr.heap.size := World.block_lt_of_cell? wr _ c1
      have ew := i32_in (k : Int) (by omega) (by omega)
      have hlt' : (k : Int) < 256 := by omega
      by_cases h128 : k < 128
      · have d1 : decide ((128 : Int) ≤ (k : Int)) = false := by simp; omega
        have hb2 := hid ((((hb.out.set_ (256 + k) k).set_ k k).set_ (512 + k) k).congr (p1_lo h128))
        have hr2 := hid (((hr.out.far (p := ⟨w.heap.size + 1, 256 + k, none⟩) (by simp) (.int .i32 k)).far (p := ⟨w.heap.size + 1, k, none⟩) (by simp) (.int .i32 k)).far (p := ⟨w.heap.size + 1, 512 + k, none⟩) (by simp) (.int .i32 k))
        have hx2 := hid (((hx.out.set (p := ⟨w.heap.size + 1, 256 + k, none⟩) (by simp) (.int .i32 k)).set (p := ⟨w.heap.size + 1, k, none⟩) (by simp) (.int .i32 k)).set (p := ⟨w.heap.size + 1, 512 + k, none⟩) (by simp) (.int .i32 k))
        go_wp2
        go_roundw
        case rel => exact ⟨k + 1, by omega, by go_num, hb2, hr2, hx2⟩
        case measure => simp [intOf] <;> omega
      · have d1 : decide ((128 : Int) ≤ (k : Int)) = true := by simp; omega
        have hb2 := hid ((((hb.out.set_ (256 + k) k).set_ k (-1)).set_ (512 + k) (-1)).congr (p1_hi (by omega) hlt))
        have hr2 := hid (((hr.out.far (p := ⟨w.heap.size + 1, 256 + k, none⟩) (by simp) (.int .i32 k)).far (p := ⟨w.heap.size + 1, k, none⟩) (by simp) (.int .i32 (-1))).far (p := ⟨w.heap.size + 1, 512 + k, none⟩) (by simp) (.int .i32 (-1)))
        have hx2 := hid (((hx.out.set (p := ⟨w.heap.size + 1, 256 + k, none⟩) (by simp) (.int .i32 k)).set (p := ⟨w.heap.size + 1, k, none⟩) (by simp) (.int .i32 (-1))).set (p := ⟨w.heap.size + 1, 512 + k, none⟩) (by simp) (.int .i32 (-1)))
        go_wp2
        go_roundw
        case rel => exact ⟨k + 1, by omega, by go_num, hb2, hr2, hx2⟩
        case measure => simp [intOf] <;> omega
    · obtain rfl : k = 256 := by omega
      have hb2 := hid (hb.out.congr p2_0)
      go_wp2_with fail
      go_loopw [4] (fun i wr => ∃ k : Nat, 128 ≤ k ∧ k ≤ 176 ∧ i = .int .i64 k ∧ Hid (Bi wr (w.heap.size + 1) 768 (p2 k)) ∧ Hid (Bi wr w.heap.size 768 (fun _ => 0)) ∧ Hid (Ext w wr)) (fun i _ => 256 - (intOf i).toNat)
      case atStart => exact ⟨128, by omega, by omega, rfl, hb2, hr, hx⟩
      case round =>
        clear hb hr hx hb2
        obtain ⟨k, hk0, hk, rfl, hb, hr, hx⟩ := hrel
        by_cases hlt : k ≤ 175
        · have c3 := (hb.out (512 + k) (by omega)).1
          have f3 := (hb.out (512 + k) (by omega)).2
          have lb : w.heap.size + 1 < wr.heap.size := World.block_lt_of_cell? wr _ c3
          have ew := i32_in ((k : Int) - 128) (by omega) (by omega)
          have ew2 := i32_in (1040 + ((k : Int) - 128)) (by omega) (by omega)
          have e2 : 1040 + ((k : Int) - 128) = (k : Int) - 128 + 1040 := by omega
          have hb2 := hid ((hb.out.set_ (512 + k) ((k : Int) - 128 + 1040)).congr (p2_step hk0 (by omega)))
          have hr2 := hid (hr.out.far (p := ⟨w.heap.size + 1, 512 + k, none⟩) (by simp) (.int .i32 ((k : Int) - 128 + 1040)))
          have hx2 := hid (hx.out.set (p := ⟨w.heap.size + 1, 512 + k, none⟩) (by simp) (.int .i32 ((k : Int) - 128 + 1040)))
          have hlt' : (k : Int) ≤ 175 := by omega
          rw [← e2] at hb2 hr2 hx2
          clear e2
          go_wp2
          go_roundw
          case rel => exact ⟨k + 1, by omega, by omega, by go_num, hb2, hr2, hx2⟩
          case measure => simp [intOf] <;> omega
        · obtain rfl : k = 176 := by omega
          have hb2 := hid (hb.out.congr p3_0)
          go_wp2_with fail
          go_loopw [5] (fun i wr => ∃ k : Nat, 224 ≤ k ∧ k ≤ 240 ∧ i = .int .i64 k ∧ Hid (Bi wr (w.heap.size + 1) 768 (p3 k)) ∧ Hid (Bi wr w.heap.size 768 (fun _ => 0)) ∧ Hid (Ext w wr)) (fun i _ => 256 - (intOf i).toNat)
          case atStart => exact ⟨224, by omega, by omega, rfl, hb2, hr, hx⟩
          case round =>
            clear hb hr hx hb2
            obtain ⟨k, hk0, hk, rfl, hb, hr, hx⟩ := hrel
            by_cases hlt : k ≤ 239
            · have c3 := (hb.out (512 + k) (by omega)).1
              have f3 := (hb.out (512 + k) (by omega)).2
              have lb : w.heap.size + 1 < wr.heap.size := World.block_lt_of_cell? wr _ c3
              have ew := i32_in ((k : Int) - 224) (by omega) (by omega)
              have ew2 := i32_in (1088 + ((k : Int) - 224)) (by omega) (by omega)
              have e2 : 1088 + ((k : Int) - 224) = (k : Int) - 224 + 1088 := by omega
              have hb2 := hid ((hb.out.set_ (512 + k) ((k : Int) - 224 + 1088)).congr (p3_step hk0 (by omega)))
              have hr2 := hid (hr.out.far (p := ⟨w.heap.size + 1, 512 + k, none⟩) (by simp) (.int .i32 ((k : Int) - 224 + 1088)))
              have hx2 := hid (hx.out.set (p := ⟨w.heap.size + 1, 512 + k, none⟩) (by simp) (.int .i32 ((k : Int) - 224 + 1088)))
              have hlt' : (k : Int) ≤ 239 := by omega
              rw [← e2] at hb2 hr2 hx2
              clear e2
              go_wp2
              go_roundw
              case rel => exact ⟨k + 1, by omega, by omega, by go_num, hb2, hr2, hx2⟩
              case measure => simp [intOf] <;> omega
            · obtain rfl : k = 240 := by omega
              have hb2 := hb.out.congr p3_all
              have hrg := hb2.range
              have hth : wr.there w.heap.size 0 (i32s pgAll 768).toArray.size := by
                rw [show (i32s pgAll 768).toArray.size = 768 by simp [i32s_len]]
                exact hr.out.there
              have hrs := World.rangeAt_setCells_same wr w.heap.size 0 (i32s pgAll 768).toArray.toList (by simpa using hth)
              have hin : (Tryz.prog.info? 230).map (·.size) = some (i32s pgAll 768).length := by rw [i32s_len]; exact info59
              have hin2 : (Tryz.prog.info? 230).map (·.size) = some (i32s pgAll 768).toArray.size := by rw [show (i32s pgAll 768).toArray.size = 768 by simp [i32s_len]]; exact info59
              have h1c := all_oneCell_toArray (i32s_one pgAll 768)
              have hld := run_loadVar_mid (P := Tryz.prog) (wr.setCells w.heap.size 0 (i32s pgAll 768).toArray.toList) w.heap.size 0 230 (i32s pgAll 768) _ (by simpa using hrs) Tryz.underlying230 rfl hin
              have hxf := hid (Ext.sets w.heap.size (Nat.le_refl _) (i32s pgAll 768).toArray.toList 0 wr hx.out)
              have hth := hid hth
              have hrg := hid hrg
              have hin := hid hin
              have hin2 := hid hin2
              have h1c := hid h1c
              have hld := hid hld
              clear hrs hb2 hb hr hx
              go_wp2_with (first | (refine wpList_load_mid rfl 230 (.tmp 1) rfl (w.heap.size + 1) 0 rfl (i32s pgAll 768) _ hrg.out Tryz.underlying230 rfl hin.out ?_) | (refine wpList_store_mid rfl 230 (.tmp 0) (.tmp 48) rfl w.heap.size 0 (i32s pgAll 768).toArray rfl rfl hth.out hin2.out h1c.out ?_))
              refine bodyPost_ret (v := .agg (i32s pgAll 768).toArray) ?_ rfl ⟨rfl, hxf.out⟩
              rw [results_cell rfl]
              simp [asAddr, Result.andThen]
              rw [hld.out]
def fB (f : Nat → Int) (c : Int) : Option Nat := if 0 ≤ c then (List.range 256).find? (fun b => f b == c) else none
def NoB (f : Nat → Int) (c : Int) (k : Nat) : Prop := ∀ j, j < k → f j ≠ c
theorem NoB.zero (f : Nat → Int) (c : Int) : NoB f c 0 := fun j hj => by omega
theorem NoB.succ {f : Nat → Int} {c : Int} {k : Nat} (h : NoB f c k) (hk : f k ≠ c) : NoB f c (k + 1) := fun j hj => by
  by_cases e : j = k
  · rw [e]; exact hk
  · exact h j (by omega)
end Go.Proofs.YtngoebbmgpdeiaaGreatDoor.Pg
namespace Go.Proofs.YtngoebbmgpdeiaaGreatDoor.Pg
open Go.RowKit
attribute [local go_sem] conv_new
theorem i32s_congr {f g : Nat → Int} {n : Nat} (h : ∀ i, i < n → f i = g i) : i32s f n = i32s g n := by
  unfold i32s
  exact List.map_congr_left fun i hi => by rw [h i (List.mem_range.1 hi)]
theorem i32s_part (f : Nat → Int) (o m n : Nat) (h : o + m ≤ n) : (i32s f n).toArray.extract o (o + m) = (i32s (fun i => f (o + i)) m).toArray := by
  apply Array.ext'
  apply List.ext_getElem?
  intro i
  have e1 : ((i32s f n).toArray.extract o (o + m)).toList = ((i32s f n).drop o).take m := by simp
  rw [e1, List.getElem?_take]
  by_cases hi : i < m
  · rw [if_pos hi, List.getElem?_drop, i32s_at f (by omega)]
    exact (i32s_at (fun i => f (o + i)) hi).symm
  · rw [if_neg hi]
    symm
    apply List.getElem?_eq_none
    show (i32s _ m).length ≤ i
    rw [i32s_len]
    omega
theorem pg_row (p : Nat) : i32s (fun i => pgAll (p * 256 + i)) 256 = i32s (chS p) 256 := i32s_congr fun i hi => by
  unfold pgAll
  rw [show (p * 256 + i) / 256 = p by omega, show (p * 256 + i) % 256 = i by omega]
theorem idx_page {p : Nat} (hp : p ≤ 2) (w : World) : (Instr.index 230 (.agg (i32s pgAll 768).toArray) (.int .i64 (p : Int))).run Tryz.prog w = .ok (.agg (i32s (chS p) 256).toArray) w := by
  have hk' : (p : Int) < 3 := by omega
  have hu := Tryz.underlying230
  have he := i32s_part pgAll (p * 256) 256 768 (by omega)
  rw [pg_row] at he
  rw [← he]
  have hk2 : p < 3 := by omega
  simp [Instr.index, part, go_sem, hu, hk', hk2]
theorem zero33 (w : World) : (zeroValue 229).run Tryz.prog w = .ok (.agg (zer 256)) w := by
  have h : (Tryz.prog.info? 229).map (·.zero) = some (some (.agg (zer 256))) := by kernel_rfl
  cases hq : Tryz.prog.info? 229 with
  | none => rw [hq] at h; cases h
  | some i =>
    rw [hq] at h
    simp at h
    simp [zeroValue, typeInfo, hq, h]
def putP (w : World) (p : Nat) : World := (w.alloc (.cells (zer 256) 229)).setCells w.heap.size 0 (i32s (chS p) 256).toArray.toList
theorem putP_there (w : World) (p : Nat) : (w.alloc (.cells (zer 256) 229)).there w.heap.size 0 (i32s (chS p) 256).toArray.size := by
  rw [show (i32s (chS p) 256).toArray.size = 256 by simp [i32s_len]]
  exact (Bi.new w _ 256 _).there
theorem putP_info (p : Nat) : (Tryz.prog.info? 229).map (·.size) = some (i32s (chS p) 256).toArray.size := by rw [show (i32s (chS p) 256).toArray.size = 256 by simp [i32s_len]]; exact info58
theorem putP_one (p : Nat) : (i32s (chS p) 256).toArray.all (·.oneCell') = true := all_oneCell_toArray (i32s_one _ 256)
theorem putP_bi (w : World) (p : Nat) : Bi (putP w p) w.heap.size 256 (chS p) := by
  refine fun k hk => ⟨?_, ?_⟩
  · have := World.rangeAt_setCells_same (w.alloc (.cells (zer 256) 229)) w.heap.size 0 (i32s (chS p) 256).toArray.toList (by simpa using putP_there w p) k (.int .i32 (chS p k)) (by simpa using i32s_at (chS p) hk)
    rwa [Nat.zero_add] at this
  · unfold putP
    rw [World.frozen?_setCells]
    exact ((Bi.new w (fun _ => 0) 256 229) k hk).2
theorem putP_ext (w : World) (p : Nat) : Ext w (putP w p) := Ext.sets w.heap.size (Nat.le_refl _) _ 0 _ ((Ext.refl w).alloc_right _)
def okS (p : Nat) (b : UInt8) : Bool := decide (0 ≤ chS p b.toNat)
def vl (p : Nat) (l : List UInt8) : Bool := l.all (okS p)
theorem vl_no {p : Nat} {l : List UInt8} {k : Nat} (hk : k < l.length) (h : chS p (l[k]).toNat < 0) : vl p l = false := by
  unfold vl
  rw [List.all_eq_false]
  exact ⟨l[k], List.getElem_mem hk, by simp [okS]; omega⟩
theorem vl_succ {p : Nat} {l : List UInt8} {k : Nat} (hk : k < l.length) (h : vl p (l.take k) = true) (h2 : 0 ≤ chS p (l[k]).toNat) : vl p (l.take (k + 1)) = true := by
  unfold vl at *
  rw [List.take_succ_eq_append_getElem hk, List.all_append, h]
  simpa [okS] using h2
theorem bth_nat {l : List UInt8} {k : Nat} (hk : k < l.length) : bth l k = ((l[k]).toNat : Int) := by simp [bth, List.getD, hk]
def okB (p : Int) (s : ByteArray) (b : Bool) : Bool := if askE p [s] = 0 then b else false
def GiveBE (b : Bool) (y : Int) (w : World) (e : Ending) (w' : World) : Prop := e = .returned (.tuple #[.bool b, .int .i64 y]) ∧ Ext w w'
theorem pg_nat {p : Int} (h : Pg p) : ∃ q : Nat, p = q ∧ q ≤ 2 := by
  unfold Pg at h
  exact ⟨p.toNat, by omega, by omega⟩
theorem Valid_any (s : ByteArray) (p : Int) (w : World) : Calls Tryz.prog 114 #[.string s, .int .i64 p] w (GiveBE (okB p s (vl p.toNat s.toList)) (askE p [s]) w) := by
  by_cases h : askE p [s] = 0
  rotate_left
  · have e1 : (askE p [s] != 0) = true := by simp [h]
    have Fin : Hid (okB p s (vl p.toNat s.toList) = false) := if_neg h
    clear h
    go_enter Tryz.func114, Tryz.ntmps114
    go_wp2_with fail
    refine (asked_any p _ _ _ [s] _ (RdS.new1 w s _)).mono ?_
    rintro e w1 ⟨rfl, rfl⟩
    go_wp2
    go_ret2
    exact ⟨by rw [Fin.out]; rfl, (Ext.refl w).alloc_right _⟩
  · have e1 : (askE p [s] != 0) = false := by simp [h]
    have Fin : Hid (okB p s (vl p.toNat s.toList) = vl p.toNat s.toList) := if_pos h
    have Fin2 := hid h
    have ho := ask_ok h
    obtain ⟨q, rfl, hq⟩ := pg_nat ho.2
    have hsz := ho.1
    rw [Int.toNat_natCast] at Fin ⊢
    have hlen : Hid (s.toList.length = s.size) := by unfold Hid; rw [ByteArray.toList_eq]; rfl
    clear ho h
    go_enter Tryz.func114, Tryz.ntmps114
    go_wp2_with fail
    refine (asked_any q _ _ _ [s] _ (RdS.new1 w s _)).mono ?_
    rintro e w1 ⟨rfl, rfl⟩
    have hx1 := hid ((Ext.refl w).alloc_right (.cells #[.string s] 9))
    generalize w.alloc (.cells #[.string s] 9) = w1 at *
    go_wp2_with fail
    refine (pages_any _).mono ?_
    rintro e w2 ⟨rfl, hx2⟩
    have hx2 := hid (hx1.out.trans hx2)
    clear hx1
    have hidx := idx_page hq w2
    have hth := hid (putP_there w2 q)
    have hin := hid (putP_info q)
    have h1c := hid (putP_one q)
    go_upto_region 5 with (first | (with_reducible refine wpList_alloc rfl rfl zero33 ?_) | (refine wpList_store_mid rfl 229 (.tmp 7) (.tmp 19) rfl w2.heap.size 0 (i32s (chS q) 256).toArray rfl rfl hth.out hin.out h1c.out ?_))
    have hB3 := hid (putP_bi w2 q)
    have hx3 := hid (hx2.out.trans (putP_ext w2 q))
    unfold putP at hB3 hx3
    clear hx2 hth hin h1c hidx
    generalize (w2.alloc (.cells (zer 256) 229)).setCells w2.heap.size 0 (i32s (chS q) 256).toArray.toList = w3 at *
    generalize w2.heap.size = g at *
    have hcap := capB_in w3 s (by omega)
    have hB := hid (newB_bk w3 s)
    have hE := hid (newB_ext w3 s)
    have hg : w3.heap.size < (newB w3 s).heap.size := by simp [newB]
    go_wp2
    go_loopw [23] (fun i wr => (∃ k : Nat, k ≤ s.size ∧ i = .int .i64 k ∧ Hid (vl q (s.toList.take k) = true)) ∧ wr = newB w3 s) (fun i _ => s.size - (intOf i).toNat)
    case atStart => exact ⟨⟨0, by omega, rfl, rfl⟩, rfl⟩
    case round =>
      obtain ⟨⟨k, hk, rfl, hv⟩, rfl⟩ := hrel
      by_cases hlt : k < s.size
      · have hlt' : k < s.toList.length := by rw [hlen.out]; exact hlt
        have hc := (hB.out.2 k hlt).1
        have hbn := bth_nat hlt'
        have hx256 : (s.toList[k]).toNat < 256 := (s.toList[k]).toNat_lt
        have hno := hid (fun h => vl_no (p := q) hlt' h)
        have hsu := hid (fun h => vl_succ (p := q) hlt' hv.out h)
        rw [hbn] at hc
        clear hbn
        generalize (s.toList[k]).toNat = x at *
        have hcx := (hB3.out.ext hE.out x hx256).1
        have lx : (x : Int) < 256 := by omega
        clear hlt'
        by_cases h0 : chS q x < 0
        · have d1 : decide (chS q x < 0) = true := by simpa using h0
          have hf := hid (hno.out h0)
          clear h0
          go_wp2
          go_ret2
          exact ⟨by rw [Fin.out, hf.out, Fin2.out]; rfl, hx3.out.trans hE.out⟩
        · have d1 : decide (chS q x < 0) = false := by simpa using h0
          have hv2 := hid (hsu.out (by omega))
          clear h0
          go_wp2
          go_roundw
          case rel => exact ⟨⟨k + 1, by omega, by go_num, hv2⟩, by trivial⟩
          case measure => simp [intOf] <;> omega
      · obtain rfl : k = s.size := by omega
        have hf : Hid (vl q s.toList = true) := by
          have := hv.out
          rw [← hlen.out, List.take_length] at this
          exact this
        go_wp2
        go_ret2
        exact ⟨by rw [Fin.out, hf.out, Fin2.out]; rfl, hx3.out.trans hE.out⟩
end Go.Proofs.YtngoebbmgpdeiaaGreatDoor.Pg
namespace Go.Proofs.YtngoebbmgpdeiaaGreatDoor
open Go.RowKit Go.Shelf
theorem There.two {w : World} {g : Nat} (t : There w g 2) : (w.cell? ⟨g, 0, none⟩ = some (cellv w ⟨g, 0, none⟩) ∧ w.frozen? ⟨g, 0, none⟩ = false) ∧ (w.cell? ⟨g, 1, none⟩ = some (cellv w ⟨g, 1, none⟩) ∧ w.frozen? ⟨g, 1, none⟩ = false) :=
  ⟨⟨t.cell (by omega), t.free (by omega)⟩, t.cell (by omega), t.free (by omega)⟩
theorem There.three {w : World} {g : Nat} (t : There w g 3) : (w.cell? ⟨g, 0, none⟩ = some (cellv w ⟨g, 0, none⟩) ∧ w.frozen? ⟨g, 0, none⟩ = false) ∧ (w.cell? ⟨g, 1, none⟩ = some (cellv w ⟨g, 1, none⟩) ∧ w.frozen? ⟨g, 1, none⟩ = false) ∧ (w.cell? ⟨g, 2, none⟩ = some (cellv w ⟨g, 2, none⟩) ∧ w.frozen? ⟨g, 2, none⟩ = false) :=
  ⟨⟨t.cell (by omega), t.free (by omega)⟩, ⟨t.cell (by omega), t.free (by omega)⟩, t.cell (by omega), t.free (by omega)⟩
theorem wrote3 {u w : World} {g : Nat} (t : There w g 3) (hx : Ext u w) (hg : u.heap.size ≤ g) (a b c : Value) :
    ((((w.setCell ⟨g, 0, none⟩ a).setCell ⟨g, 1, none⟩ b).setCell ⟨g, 2, none⟩ c).cell? ⟨g, 0, none⟩ = some a ∧ (((w.setCell ⟨g, 0, none⟩ a).setCell ⟨g, 1, none⟩ b).setCell ⟨g, 2, none⟩ c).cell? ⟨g, 1, none⟩ = some b ∧ (((w.setCell ⟨g, 0, none⟩ a).setCell ⟨g, 1, none⟩ b).setCell ⟨g, 2, none⟩ c).cell? ⟨g, 2, none⟩ = some c) ∧
    Ext u (((w.setCell ⟨g, 0, none⟩ a).setCell ⟨g, 1, none⟩ b).setCell ⟨g, 2, none⟩ c) :=
  ⟨Ky.put3 t a b c, ((hx.set hg a).set (p := ⟨g, 1, none⟩) hg b).set (p := ⟨g, 2, none⟩) hg c⟩
theorem text_set {u w : World} {b d g : Nat} {f : Fd} {x : Vl} (s : ByteArray) (hF : F4 w b f) (hV : V3 w d x) (hG : There w g 3) (hbd : b ≠ d) (hd : u.heap.size ≤ d) (hx : Ext u w) :
    F4 (w.setCell ⟨d, 2, none⟩ (.string s)) b f ∧ V3 (w.setCell ⟨d, 2, none⟩ (.string s)) d ⟨x.k, x.n, s⟩ ∧ There (w.setCell ⟨d, 2, none⟩ (.string s)) g 3 ∧ Ext u (w.setCell ⟨d, 2, none⟩ (.string s)) := by
  have hs : (w.setCell ⟨d, 2, none⟩ (.string s)).heap.size = w.heap.size := by simp [World.setCell]
  have n : ∀ i, (⟨d, 2, none⟩ : Addr).block ≠ (⟨b, i, none⟩ : Addr).block := fun i => Ne.symm hbd
  exact ⟨⟨cell_far hF.1 (n 0), cell_far hF.2.1 (n 1), cell_far hF.2.2.1 (n 2), cell_far hF.2.2.2.1 (n 3), by rw [hs]; exact hF.2.2.2.2⟩,
    ⟨set_keep hV.1 (off_ne (by decide)), set_keep hV.2.1 (off_ne (by decide)), set_get hV.2.2.1, by rw [hs]; exact hV.2.2.2⟩, hG.set _ _, hx.set hd _⟩
def emptyV (f : Fd) : Vl := if f.k = 5 then ⟨2, 0, ⟨#[]⟩⟩ else ⟨f.k, 0, ⟨#[]⟩⟩
theorem empty_any (f : Fd) (w : World) : Calls Tryz.prog 76 #[fd f] w (Give (vl (emptyV f)) w) := by
  have hx := hid ((Ext.new w (.cells #[.string f.nm, .int .i64 f.k, .int .i64 f.wd, .bool f.nl] 64)).alloc_right)
  unfold fd
  by_cases h : f.k = 5
  · have hE : Hid (vl (emptyV f) = .agg #[.int .i64 2, .int .i64 0, .string ⟨#[]⟩]) := by unfold Hid emptyV; rw [if_pos h]; rfl
    have hk : (f.k == 5) = true := by rw [h]; rfl
    clear h
    go_enter Tryz.func76, Tryz.ntmps76
    go_wp2
    exact bodyPost_ret (v := .agg #[.int .i64 2, .int .i64 0, .string ⟨#[]⟩]) (by simp [results, Tryz.results76, go_sem]) rfl ⟨by rw [hE.out], hx.out _⟩
  · have hE : Hid (vl (emptyV f) = .agg #[.int .i64 f.k, .int .i64 0, .string ⟨#[]⟩]) := by unfold Hid emptyV; rw [if_neg h]; rfl
    have hk : (f.k == 5) = false := by rw [beq_eq_false_iff_ne]; exact h
    clear h
    go_enter Tryz.func76, Tryz.ntmps76
    go_wp2
    exact bodyPost_ret (v := .agg #[.int .i64 f.k, .int .i64 0, .string ⟨#[]⟩]) (by simp [results, Tryz.results76, go_sem]) rfl ⟨by rw [hE.out], hx.out _⟩
theorem fld66 (a b c : Value) (w : World) : (Instr.field 66 (.agg #[a, b, c]) 0).run Tryz.prog w = .ok a w := by kernel_rfl
def textB (s : ByteArray) (p : Int) : Bool := Pg.okB p s (Pg.vl p.toNat s.toList) && (Pg.askE p [s] == 0)
theorem isText_any (s : ByteArray) (p : Int) (w : World) : Calls Tryz.prog 78 #[.string s, .int .i64 p] w (Give (.bool (textB s p)) w) := by
  have hV := hid (Pg.Valid_any s p w)
  have hT : Hid (textB s p = (Pg.okB p s (Pg.vl p.toNat s.toList) && (Pg.askE p [s] == 0))) := rfl
  generalize Pg.okB p s (Pg.vl p.toNat s.toList) = B at *
  generalize Pg.askE p [s] = E at *
  go_enter Tryz.func78, Tryz.ntmps78
  go_wp2_with fail
  refine hV.out.mono ?_
  rintro e w1 ⟨rfl, hx⟩
  replace hx := hid hx
  clear hV
  cases B
  all_goals go_wp2
  all_goals go_ret
  all_goals exact ⟨ret_bool (by rw [hT.out]; rfl), hx.out⟩
def cutS (f : Fd) (x : Vl) : ByteArray := Ky.trimR (x.s.extract 0 (min x.s.size f.wd.toNat)) 32
def okN (f : Fd) (x : Vl) : Bool := (Ky.strE x.n f.wd == 0) && !Ky.preB (Ky.strS x.n f.wd) ⟨#[42]⟩
def okM (x : Vl) : Bool := decide (0 ≤ x.n) && decide (x.n ≤ 99999999)
def fitR (f : Fd) (p : Int) (x : Vl) : Vl × Int :=
  if fieldB f = false ∨ pgB p = false then (v0, 1) else if Ky.valE x.k x.n x.s ≠ 0 then (v0, Ky.valE x.k x.n x.s)
  else if x.k = 0 then (if f.nl = true then (x, 0) else (v0, 7)) else if x.k ≠ (emptyV f).k then (v0, 6)
  else if f.k = 4 then (if textB (cutS f x) p then (⟨x.k, x.n, cutS f x⟩, 0) else (v0, 10))
  else if f.k = 2 then (if okN f x then (x, 0) else (v0, 10)) else if f.k = 5 then (if okM x then (x, 0) else (v0, 10)) else (x, 0)
def GiveVE (x : Vl) (y : Int) (w : World) (e : Ending) (w' : World) : Prop := e = .returned (.tuple #[vl x, .int .i64 y]) ∧ Ext w w'
theorem Fit_any (f : Fd) (p : Int) (x : Vl) (w : World) : Calls Tryz.prog 40 #[fd f, .int .i64 p, vl x] w (GiveVE (fitR f p x).1 (fitR f p x).2 w) := by
  have hF := F4.new w f
  have hV := V3.new (w.alloc (.cells #[.string f.nm, .int .i64 f.k, .int .i64 f.wd, .bool f.nl] 64)) x
  have hG := There.new ((w.alloc (.cells #[.string f.nm, .int .i64 f.k, .int .i64 f.wd, .bool f.nl] 64)).alloc (.cells #[.int .i64 x.k, .int .i64 x.n, .string x.s] 66)) #[.int .i64 0, .int .i64 0, .string ⟨#[]⟩] 66 (n := 3) (by decide)
  have hD := There.new (w.alloc (.cells #[.string f.nm, .int .i64 f.k, .int .i64 f.wd, .bool f.nl] 64)) #[.int .i64 x.k, .int .i64 x.n, .string x.s] 66 (n := 3) (by simp)
  have y2 := Ext.new (w.alloc (.cells #[.string f.nm, .int .i64 f.k, .int .i64 f.wd, .bool f.nl] 64)) (.cells #[.int .i64 x.k, .int .i64 x.n, .string x.s] 66)
  have y3 := Ext.new ((w.alloc (.cells #[.string f.nm, .int .i64 f.k, .int .i64 f.wd, .bool f.nl] 64)).alloc (.cells #[.int .i64 x.k, .int .i64 x.n, .string x.s] 66)) (.cells #[.int .i64 0, .int .i64 0, .string ⟨#[]⟩] 66)
  replace hF := hid ((hF.ext y2).ext y3)
  replace hV := hid (hV.ext y3)
  replace hD := hD.ext y3
  have hx := hid (((Ext.new w (.cells #[.string f.nm, .int .i64 f.k, .int .i64 f.wd, .bool f.nl] 64)).trans y2).trans y3)
  simp only [World.size_alloc] at hV hG hD
  clear y2 y3
  have hfR : Hid (fitR f p x = if fieldB f = false ∨ pgB p = false then (v0, 1) else if Ky.valE x.k x.n x.s ≠ 0 then (v0, Ky.valE x.k x.n x.s)
    else if x.k = 0 then (if f.nl = true then (x, 0) else (v0, 7)) else if x.k ≠ (emptyV f).k then (v0, 6)
    else if f.k = 4 then (if textB (cutS f x) p then (⟨x.k, x.n, cutS f x⟩, 0) else (v0, 10))
    else if f.k = 2 then (if okN f x then (x, 0) else (v0, 10)) else if f.k = 5 then (if okM x then (x, 0) else (v0, 10)) else (x, 0)) := rfl
  generalize hR : fitR f p x = R at hfR ⊢
  clear hR
  have q1 := hid (fun w => isField_any f w)
  have q2 := hid (fun w => isPage_any p w)
  have q3 := hid (fun w => Ky.Validate_any x.k x.n x.s w)
  have q4 := hid (fun w => empty_any f w)
  have hwd := hid (field_wd (f := f))
  have hsz := hid (show Ky.valE x.k x.n x.s = 0 → x.s.size ≤ 2048 from fun h => by
    unfold Ky.valE at h
    split at h
    · cases h
    · omega)
  unfold fd at q1 q4
  unfold vl at q4
  unfold Ky.vV at q3
  unfold fd vl
  go_enter Tryz.func40, Tryz.ntmps40
  go_upto_region 1 with fail
  try simp only [World.size_alloc]
  generalize ((w.alloc (.cells #[.string f.nm, .int .i64 f.k, .int .i64 f.wd, .bool f.nl] 64)).alloc (.cells #[.int .i64 x.k, .int .i64 x.n, .string x.s] 66)).alloc (.cells #[.int .i64 0, .int .i64 0, .string ⟨#[]⟩] 66) = w1 at *
  obtain ⟨b, hb0⟩ : ∃ b, b = w.heap.size := ⟨_, rfl⟩
  obtain ⟨d, hd0⟩ : ∃ d, d = b + 1 := ⟨_, rfl⟩
  obtain ⟨g, hg0⟩ : ∃ g, g = d + 1 := ⟨_, rfl⟩
  rw [← hb0] at hF hV hG hD
  rw [← hd0] at hV hG hD
  rw [← hg0] at hG
  simp only [← hb0]
  simp only [← hd0]
  simp only [← hg0]
  have hgw := hid (show w.heap.size ≤ g by omega)
  have hbd : b ≠ d := by omega
  have hdg := hid (show d < g ∧ w.heap.size ≤ d by omega)
  clear hb0 hd0 hg0
  replace hG := hid hG
  replace hD := hid hD
  replace hbd := hid hbd
  have hy := hid (Ext.refl w1)
  obtain ⟨c0, c1, c2, c3, hb⟩ := hF.out
  obtain ⟨d0, d1, d2, hd⟩ := hV.out
  go_wp2_with fail
  refine (q1.out _).mono ?_
  rintro e w2 ⟨rfl, hx2⟩
  replace hy := hid (hy.out.trans hx2)
  clear hx2 c0 c1 c2 c3 hb d0 d1 d2 hd
  obtain ⟨c0, c1, c2, c3, hb⟩ := hF.out.ext hy.out
  obtain ⟨d0, d1, d2, hd⟩ := hV.out.ext hy.out
  cases hB : fieldB f with
  | false =>
    replace hfR := hid (hfR.out.trans (if_pos (Or.inl hB)))
    clear hB hwd hsz q1 q2 q3 q4
    obtain ⟨⟨p0, f0⟩, ⟨p1, f1⟩, p2, f2⟩ := (hG.out.ext hy.out).three
    have Fin := hid (wrote3 (hG.out.ext hy.out) (hx.out.trans hy.out) hgw.out (.int .i64 0) (.int .i64 0) (.string ⟨#[]⟩))
    clear hG
    go_wp2
    obtain ⟨⟨k0, k1, k2⟩, kx⟩ := Fin.out
    exact bodyPost_ret (v := .tuple #[.agg #[.int .i64 0, .int .i64 0, .string ⟨#[]⟩], .int .i64 (1)]) (by simp [results, Tryz.results40, go_sem, k0, k1, k2]) rfl ⟨by rw [hfR.out]; rfl, kx⟩
  | true =>
    have hwd := hwd.out hB
    cases hP : pgB p with
    | false =>
      replace hfR := hid (hfR.out.trans (if_pos (Or.inr hP)))
      rw [hP] at q2
      go_wp2_with fail
      refine (q2.out _).mono ?_
      rintro e w3 ⟨rfl, rfl⟩
      clear hB hP hwd hsz q1 q2 q3 q4
      obtain ⟨⟨p0, f0⟩, ⟨p1, f1⟩, p2, f2⟩ := (hG.out.ext hy.out).three
      have Fin := hid (wrote3 (hG.out.ext hy.out) (hx.out.trans hy.out) hgw.out (.int .i64 0) (.int .i64 0) (.string ⟨#[]⟩))
      clear hG
      go_wp2
      obtain ⟨⟨k0, k1, k2⟩, kx⟩ := Fin.out
      exact bodyPost_ret (v := .tuple #[.agg #[.int .i64 0, .int .i64 0, .string ⟨#[]⟩], .int .i64 (1)]) (by simp [results, Tryz.results40, go_sem, k0, k1, k2]) rfl ⟨by rw [hfR.out]; rfl, kx⟩
    | true =>
      replace hfR := hid (hfR.out.trans (if_neg (by rw [hB, hP]; simp)))
      rw [hP] at q2
      go_wp2_with fail
      refine (q2.out _).mono ?_
      rintro e w3 ⟨rfl, rfl⟩
      clear hB hP q1 q2
      go_wp2_with fail
      refine (q3.out _).mono ?_
      rintro e w4 ⟨rfl, hx2⟩
      replace hy := hid (hy.out.trans hx2)
      clear hx2 c0 c1 c2 c3 hb d0 d1 d2 hd
      obtain ⟨c0, c1, c2, c3, hb⟩ := hF.out.ext hy.out
      obtain ⟨d0, d1, d2, hd⟩ := hV.out.ext hy.out
      by_cases hE : Ky.valE x.k x.n x.s = 0
      rotate_left
      · replace hfR := hid (hfR.out.trans (if_pos hE))
        clear hwd hsz q3 q4
        generalize Ky.valE x.k x.n x.s = E at *
        have e1 : (E != 0) = true := by simp [hE]
        obtain ⟨⟨p0, f0⟩, ⟨p1, f1⟩, p2, f2⟩ := (hG.out.ext hy.out).three
        have Fin := hid (wrote3 (hG.out.ext hy.out) (hx.out.trans hy.out) hgw.out (.int .i64 0) (.int .i64 0) (.string ⟨#[]⟩))
        clear hG
        go_wp2
        obtain ⟨⟨k0, k1, k2⟩, kx⟩ := Fin.out
        exact bodyPost_ret (v := .tuple #[.agg #[.int .i64 0, .int .i64 0, .string ⟨#[]⟩], .int .i64 (E)]) (by simp [results, Tryz.results40, go_sem, k0, k1, k2]) rfl ⟨by rw [hfR.out]; rfl, kx⟩
      replace hfR := hid (hfR.out.trans (if_neg (fun h => h hE)))
      have hsz := hsz.out hE
      rw [hE]
      clear hE q3
      by_cases hk0 : x.k = 0
      · replace hfR := hid (hfR.out.trans (if_pos hk0))
        have e0 : (x.k == 0) = true := by rw [hk0]; rfl
        cases hnl : f.nl with
        | false =>
          replace hfR := hid (hfR.out.trans (if_neg (by rw [hnl]; simp)))
          rw [hnl] at c3
          clear hwd hsz q4 hk0
          obtain ⟨⟨p0, f0⟩, ⟨p1, f1⟩, p2, f2⟩ := (hG.out.ext hy.out).three
          have Fin := hid (wrote3 (hG.out.ext hy.out) (hx.out.trans hy.out) hgw.out (.int .i64 0) (.int .i64 0) (.string ⟨#[]⟩))
          clear hG
          go_wp2
          obtain ⟨⟨k0, k1, k2⟩, kx⟩ := Fin.out
          exact bodyPost_ret (v := .tuple #[.agg #[.int .i64 0, .int .i64 0, .string ⟨#[]⟩], .int .i64 (7)]) (by simp [results, Tryz.results40, go_sem, k0, k1, k2]) rfl ⟨by rw [hfR.out]; rfl, kx⟩
        | true =>
          replace hfR := hid (hfR.out.trans (if_pos hnl))
          rw [hnl] at c3
          clear hwd hsz q4 hk0
          obtain ⟨⟨p0, f0⟩, ⟨p1, f1⟩, p2, f2⟩ := (hG.out.ext hy.out).three
          have Fin := hid (wrote3 (hG.out.ext hy.out) (hx.out.trans hy.out) hgw.out (.int .i64 x.k) (.int .i64 x.n) (.string x.s))
          clear hG
          go_wp2
          obtain ⟨⟨k0, k1, k2⟩, kx⟩ := Fin.out
          exact bodyPost_ret (v := .tuple #[.agg #[.int .i64 x.k, .int .i64 x.n, .string x.s], .int .i64 (0)]) (by simp [results, Tryz.results40, go_sem, k0, k1, k2]) rfl ⟨by rw [hfR.out]; rfl, kx⟩
      · replace hfR := hid (hfR.out.trans (if_neg hk0))
        have e0 : (x.k == 0) = false := by rw [beq_eq_false_iff_ne]; exact hk0
        clear hk0
        go_upto_region 10 with fail
        go_cut [39] (fun t wx => t = .bool (x.k != (emptyV f).k) ∧ Hid (Ext w1 wx))
        case first =>
          have xa := (Ext.refl w4).drew_right
          refine region_J (fun w' => Ext w4 w') 6 (by kernel_rfl) ?_
          generalize w4.drew = da at xa ⊢
          refine JR 0 (v := ?va1) rfl (by kernel_rfl) rfl ?ya1 xa ?ra1
          case ya1 => (intro w hw; (go_simp; with_reducible rfl))
          simp only [Act.put, lyA, lyB, lyC, lyD, lyE, lyF]
          refine JR 1 (v := ?va2) rfl (by kernel_rfl) rfl ?ya2 xa ?ra2
          case ya2 => (intro w hw; obtain ⟨c0, c1, c2, c3, hb⟩ := hF.out.ext (hy.out.trans hw); obtain ⟨d0, d1, d2, hd⟩ := hV.out.ext (hy.out.trans hw); (go_simp; with_reducible rfl))
          simp only [Act.put, lyA, lyB, lyC, lyD, lyE, lyF]
          refine JR 2 (v := ?va3) rfl (by kernel_rfl) rfl ?ya3 xa ?ra3
          case ya3 => (intro w hw; obtain ⟨c0, c1, c2, c3, hb⟩ := hF.out.ext (hy.out.trans hw); obtain ⟨d0, d1, d2, hd⟩ := hV.out.ext (hy.out.trans hw); (go_simp; with_reducible rfl))
          simp only [Act.put, lyA, lyB, lyC, lyD, lyE, lyF]
          refine J_one 3 rfl (by kernel_rfl) (fun K hK => ?_)
          go_simp
          refine (q4.out _).mono ?_
          rintro e wa4 ⟨rfl, hxa4⟩
          refine hK _ _ ⟨fun _ => ((xa).trans hxa4), ?_⟩
          clear hK K
          try simp only [Act.put, lyA, lyB, lyC, lyD, lyE, lyF]
          have xa4 := ((xa).trans hxa4)
          refine JR 4 (v := ?va5) rfl (by kernel_rfl) rfl ?ya5 xa4 ?ra5
          case ya5 => (intro w hw; have hfl := fld66 (.int .i64 (emptyV f).k) (.int .i64 (emptyV f).n) (.string (emptyV f).s) w; (go_simp; with_reducible rfl))
          simp only [Act.put, lyA, lyB, lyC, lyD, lyE, lyF]
          refine JR 5 (v := ?va6) rfl (by kernel_rfl) rfl ?ya6 xa4 ?ra6
          case ya6 => (intro w hw; (go_simp; with_reducible rfl))
          simp only [Act.put, lyA, lyB, lyC, lyD, lyE, lyF]
          refine J_done (by kernel_rfl) (OnlyOn.normal ?_)
          go_wp2_with fail
          go_meet
          exact ⟨rfl, hid (hy.out.trans xa4)⟩
        case rest =>
          obtain ⟨rfl, hy⟩ := hcut
          clear c0 c1 c2 c3 hb d0 d1 d2 hd
          obtain ⟨c0, c1, c2, c3, hb⟩ := hF.out.ext hy.out
          obtain ⟨d0, d1, d2, hd⟩ := hV.out.ext hy.out
          by_cases hk : x.k = (emptyV f).k
          rotate_left
          · replace hfR := hid (hfR.out.trans (if_pos hk))
            have e1 : (x.k != (emptyV f).k) = true := by simp [hk]
            clear hwd hsz q4 hk
            obtain ⟨⟨p0, f0⟩, ⟨p1, f1⟩, p2, f2⟩ := (hG.out.ext hy.out).three
            have Fin := hid (wrote3 (hG.out.ext hy.out) (hx.out.trans hy.out) hgw.out (.int .i64 0) (.int .i64 0) (.string ⟨#[]⟩))
            clear hG
            go_wp2
            obtain ⟨⟨k0, k1, k2⟩, kx⟩ := Fin.out
            exact bodyPost_ret (v := .tuple #[.agg #[.int .i64 0, .int .i64 0, .string ⟨#[]⟩], .int .i64 (6)]) (by simp [results, Tryz.results40, go_sem, k0, k1, k2]) rfl ⟨by rw [hfR.out]; rfl, kx⟩
          replace hfR := hid (hfR.out.trans (if_neg (fun h => h hk)))
          have e1 : (x.k != (emptyV f).k) = false := by simp [hk]
          clear q4 hk
          by_cases k4 : f.k = 4
          · replace hfR := hid (hfR.out.trans (if_pos k4))
            obtain ⟨m, hm⟩ : ∃ m : Nat, m = min x.s.size f.wd.toNat := ⟨_, rfl⟩
            have hmin : min (x.s.size : Int) f.wd = (m : Int) := by omega
            have hle : (m : Int) ≤ (x.s.size : Int) := by omega
            have hcs : Hid (cutS f x = Ky.trimR (x.s.extract 0 m) 32) := by unfold Hid cutS; rw [hm]
            have hT := hid (Ky.TrimRight_any (x.s.extract 0 m) (by unfold maxLen; rw [ByteArray.size_extract]; omega) wc)
            have hTx := hid (fun w => isText_any (cutS f x) p w)
            rw [← hcs.out] at hT
            generalize cutS f x = s2 at *
            generalize textB s2 p = tb at *
            clear hwd hsz hm hcs
            rw [k4] at c1
            obtain ⟨-, -, p2, f2⟩ := (hD.out.ext hy.out).three
            go_wp2_with fail
            refine hT.out.mono ?_
            rintro e w6 ⟨rfl, rfl⟩
            clear hT hmin hle
            go_upto_region 15 with fail
            obtain ⟨r1, r2, r3, r4⟩ := text_set s2 (hF.out.ext hy.out) (hV.out.ext hy.out) (hG.out.ext hy.out) hbd.out hdg.out.2 (hx.out.trans hy.out)
            clear c0 c1 c2 c3 hb d0 d1 d2 hd p2 f2 hF hV hG hD hx hy
            generalize wc.setCell ⟨d, 2, none⟩ (.string s2) = w7 at *
            have hG := hid r3
            have hx := hid r4
            obtain ⟨d0, d1, d2, hd⟩ := r2
            have hy := hid (Ext.refl w7)
            clear r1 r3 r4
            have hV2 := hid (show V3 w7 d ⟨x.k, x.n, s2⟩ from ⟨d0, d1, d2, hd⟩)
            go_wp2_with fail
            refine (hTx.out _).mono ?_
            rintro e w8 ⟨rfl, hx8⟩
            replace hy := hid hx8
            clear hx8 hTx d0 d1 d2 hd
            obtain ⟨d0, d1, d2, hd⟩ := hV2.out.ext hy.out
            cases tb with
            | false =>
              replace hfR := hid (hfR.out.trans (if_neg (by simp)))
              obtain ⟨⟨p0, f0⟩, ⟨p1, f1⟩, p2, f2⟩ := (hG.out.ext hy.out).three
              have Fin := hid (wrote3 (hG.out.ext hy.out) (hx.out.trans hy.out) hgw.out (.int .i64 0) (.int .i64 0) (.string ⟨#[]⟩))
              clear hG
              go_wp2
              obtain ⟨⟨k0, k1, k2⟩, kx⟩ := Fin.out
              exact bodyPost_ret (v := .tuple #[.agg #[.int .i64 0, .int .i64 0, .string ⟨#[]⟩], .int .i64 (10)]) (by simp [results, Tryz.results40, go_sem, k0, k1, k2]) rfl ⟨by rw [hfR.out]; rfl, kx⟩
            | true =>
              replace hfR := hid (hfR.out.trans (if_pos rfl))
              obtain ⟨⟨p0, f0⟩, ⟨p1, f1⟩, p2, f2⟩ := (hG.out.ext hy.out).three
              have Fin := hid (wrote3 (hG.out.ext hy.out) (hx.out.trans hy.out) hgw.out (.int .i64 x.k) (.int .i64 x.n) (.string s2))
              clear hG
              go_wp2
              obtain ⟨⟨k0, k1, k2⟩, kx⟩ := Fin.out
              exact bodyPost_ret (v := .tuple #[.agg #[.int .i64 x.k, .int .i64 x.n, .string s2], .int .i64 (0)]) (by simp [results, Tryz.results40, go_sem, k0, k1, k2]) rfl ⟨by rw [hfR.out]; rfl, kx⟩
          replace hfR := hid (hfR.out.trans (if_neg k4))
          have e4 : (f.k == 4) = false := by rw [beq_eq_false_iff_ne]; exact k4
          clear k4
          by_cases k2 : f.k = 2
          · replace hfR := hid (hfR.out.trans (if_pos k2))
            have hS := hid (fun w => Ky.Str_any x.n f.wd w)
            have hP := hid (fun w => Ky.HasPrefix_any (Ky.strS x.n f.wd) ⟨#[42]⟩ w)
            have hO : Hid (okN f x = ((Ky.strE x.n f.wd == 0) && !Ky.preB (Ky.strS x.n f.wd) ⟨#[42]⟩)) := rfl
            rw [k2] at c1
            generalize Ky.strE x.n f.wd = E at *
            generalize Ky.preB (Ky.strS x.n f.wd) ⟨#[42]⟩ = B at *
            generalize Ky.strS x.n f.wd = S at *
            generalize okN f x = O at *
            clear e4 hD hbd
            have hk2 := hid k2
            clear k2 hwd hsz
            go_wp2_with fail
            refine (hS.out _).mono ?_
            rintro e w6 ⟨rfl, hx6⟩
            replace hy := hid (hy.out.trans hx6)
            clear hx6 hS c0 c1 c2 c3 hb d0 d1 d2 hd
            obtain ⟨c0, c1, c2, c3, hb⟩ := hF.out.ext hy.out
            obtain ⟨d0, d1, d2, hd⟩ := hV.out.ext hy.out
            rw [hk2.out] at c1
            by_cases hE : E = 0
            · have e1 : (E != 0) = false := by simp [hE]
              have e2 : (E == 0) = true := by simp [hE]
              rw [e2] at hO
              clear e2
              go_wp2_with fail
              refine (hP.out _).mono ?_
              rintro e w7 ⟨rfl, rfl⟩
              clear hP e1
              cases B with
              | true =>
                replace hO := hid (show O = false from hO.out)
                replace hfR := hid (hfR.out.trans (if_neg (by rw [hO.out]; simp)))
                clear hO hE
                obtain ⟨⟨p0, f0⟩, ⟨p1, f1⟩, p2, f2⟩ := (hG.out.ext hy.out).three
                have Fin := hid (wrote3 (hG.out.ext hy.out) (hx.out.trans hy.out) hgw.out (.int .i64 0) (.int .i64 0) (.string ⟨#[]⟩))
                clear hG
                go_wp2
                obtain ⟨⟨k0, k1, k2⟩, kx⟩ := Fin.out
                exact bodyPost_ret (v := .tuple #[.agg #[.int .i64 0, .int .i64 0, .string ⟨#[]⟩], .int .i64 (10)]) (by simp [results, Tryz.results40, go_sem, k0, k1, k2]) rfl ⟨by rw [hfR.out]; rfl, kx⟩
              | false =>
                replace hO := hid (show O = true from hO.out)
                replace hfR := hid (hfR.out.trans (if_pos hO.out))
                clear hO hE
                obtain ⟨⟨p0, f0⟩, ⟨p1, f1⟩, p2, f2⟩ := (hG.out.ext hy.out).three
                have Fin := hid (wrote3 (hG.out.ext hy.out) (hx.out.trans hy.out) hgw.out (.int .i64 x.k) (.int .i64 x.n) (.string x.s))
                clear hG
                go_wp2
                obtain ⟨⟨k0, k1, k2⟩, kx⟩ := Fin.out
                exact bodyPost_ret (v := .tuple #[.agg #[.int .i64 x.k, .int .i64 x.n, .string x.s], .int .i64 (0)]) (by simp [results, Tryz.results40, go_sem, k0, k1, k2]) rfl ⟨by rw [hfR.out]; rfl, kx⟩
            · have e1 : (E != 0) = true := by simp [hE]
              have e2 : (E == 0) = false := by simp [hE]
              rw [e2] at hO
              replace hO := hid (show O = false from hO.out)
              replace hfR := hid (hfR.out.trans (if_neg (by rw [hO.out]; simp)))
              clear hO hE e2
              obtain ⟨⟨p0, f0⟩, ⟨p1, f1⟩, p2, f2⟩ := (hG.out.ext hy.out).three
              have Fin := hid (wrote3 (hG.out.ext hy.out) (hx.out.trans hy.out) hgw.out (.int .i64 0) (.int .i64 0) (.string ⟨#[]⟩))
              clear hG
              go_wp2
              obtain ⟨⟨k0, k1, k2⟩, kx⟩ := Fin.out
              exact bodyPost_ret (v := .tuple #[.agg #[.int .i64 0, .int .i64 0, .string ⟨#[]⟩], .int .i64 (10)]) (by simp [results, Tryz.results40, go_sem, k0, k1, k2]) rfl ⟨by rw [hfR.out]; rfl, kx⟩
          replace hfR := hid (hfR.out.trans (if_neg k2))
          have e2 : (f.k == 2) = false := by rw [beq_eq_false_iff_ne]; exact k2
          clear k2
          by_cases k5 : f.k = 5
          · replace hfR := hid (hfR.out.trans (if_pos k5))
            have hO : Hid (okM x = (decide (0 ≤ x.n) && decide (x.n ≤ 99999999))) := rfl
            have e5 : (f.k == 5) = true := by rw [k5]; rfl
            generalize okM x = O at *
            clear k5 hwd hsz hD hbd
            by_cases h1 : x.n < 0
            · replace hO := hid (show O = false by rw [hO.out, decide_eq_false (by omega)]; rfl)
              replace hfR := hid (hfR.out.trans (if_neg (by rw [hO.out]; simp)))
              clear hO
              obtain ⟨⟨p0, f0⟩, ⟨p1, f1⟩, p2, f2⟩ := (hG.out.ext hy.out).three
              have Fin := hid (wrote3 (hG.out.ext hy.out) (hx.out.trans hy.out) hgw.out (.int .i64 0) (.int .i64 0) (.string ⟨#[]⟩))
              clear hG
              go_wp2
              obtain ⟨⟨k0, k1, k2⟩, kx⟩ := Fin.out
              exact bodyPost_ret (v := .tuple #[.agg #[.int .i64 0, .int .i64 0, .string ⟨#[]⟩], .int .i64 (10)]) (by simp [results, Tryz.results40, go_sem, k0, k1, k2]) rfl ⟨by rw [hfR.out]; rfl, kx⟩
            · by_cases h2 : 99999999 < x.n
              · replace hO := hid (show O = false by rw [hO.out, decide_eq_false (show ¬ x.n ≤ 99999999 by omega)]; simp)
                replace hfR := hid (hfR.out.trans (if_neg (by rw [hO.out]; simp)))
                clear hO
                obtain ⟨⟨p0, f0⟩, ⟨p1, f1⟩, p2, f2⟩ := (hG.out.ext hy.out).three
                have Fin := hid (wrote3 (hG.out.ext hy.out) (hx.out.trans hy.out) hgw.out (.int .i64 0) (.int .i64 0) (.string ⟨#[]⟩))
                clear hG
                go_wp2
                obtain ⟨⟨k0, k1, k2⟩, kx⟩ := Fin.out
                exact bodyPost_ret (v := .tuple #[.agg #[.int .i64 0, .int .i64 0, .string ⟨#[]⟩], .int .i64 (10)]) (by simp [results, Tryz.results40, go_sem, k0, k1, k2]) rfl ⟨by rw [hfR.out]; rfl, kx⟩
              · replace hO := hid (show O = true by rw [hO.out, decide_eq_true (by omega), decide_eq_true (by omega)]; rfl)
                replace hfR := hid (hfR.out.trans (if_pos hO.out))
                clear hO
                obtain ⟨⟨p0, f0⟩, ⟨p1, f1⟩, p2, f2⟩ := (hG.out.ext hy.out).three
                have Fin := hid (wrote3 (hG.out.ext hy.out) (hx.out.trans hy.out) hgw.out (.int .i64 x.k) (.int .i64 x.n) (.string x.s))
                clear hG
                go_wp2
                obtain ⟨⟨k0, k1, k2⟩, kx⟩ := Fin.out
                exact bodyPost_ret (v := .tuple #[.agg #[.int .i64 x.k, .int .i64 x.n, .string x.s], .int .i64 (0)]) (by simp [results, Tryz.results40, go_sem, k0, k1, k2]) rfl ⟨by rw [hfR.out]; rfl, kx⟩
          · replace hfR := hid (hfR.out.trans (if_neg k5))
            have e5 : (f.k == 5) = false := by rw [beq_eq_false_iff_ne]; exact k5
            clear k5 hwd hsz hD hbd
            obtain ⟨⟨p0, f0⟩, ⟨p1, f1⟩, p2, f2⟩ := (hG.out.ext hy.out).three
            have Fin := hid (wrote3 (hG.out.ext hy.out) (hx.out.trans hy.out) hgw.out (.int .i64 x.k) (.int .i64 x.n) (.string x.s))
            clear hG
            go_wp2
            obtain ⟨⟨k0, k1, k2⟩, kx⟩ := Fin.out
            exact bodyPost_ret (v := .tuple #[.agg #[.int .i64 x.k, .int .i64 x.n, .string x.s], .int .i64 (0)]) (by simp [results, Tryz.results40, go_sem, k0, k1, k2]) rfl ⟨by rw [hfR.out]; rfl, kx⟩
end Go.Proofs.YtngoebbmgpdeiaaGreatDoor
