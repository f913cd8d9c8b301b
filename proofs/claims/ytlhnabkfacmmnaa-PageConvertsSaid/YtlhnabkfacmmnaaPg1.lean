/-
  The functions of package page, and of its reference, on one byte: what each gives.
-/
import Derived.Test.YtlhnabkfacmmnaaProg
import Derived.Test.YtlhnabkfacmmnaaBase
namespace Go.Proofs.Ytlhnabkfacmmnaa
open Go.RowKit
set_option linter.unusedVariables false
def withinB (x lo hi : Int) : Bool := decide (lo ≤ x) && decide (x ≤ hi)
def isCapS (x p : Int) : Bool := withinB x 65 90 || (decide (p = 1) && withinB x 192 222 && x != 215) || (decide (p = 2) && withinB x 128 159)
def isSmallA (x p : Int) : Bool := withinB x 97 122 || (decide (p = 1) && withinB x 224 254 && x != 247) || (decide (p = 2) && withinB x 160 175)
def isSmallB (x p : Int) : Bool := decide (p = 2) && withinB x 224 239
def isSmallS (x p : Int) : Bool := isSmallA x p || isSmallB x p
def upS_ (x p : Int) : Int := if isSmallA x p then x - 32 else if isSmallB x p then x - 80 else x
def isLetS (x p : Int) : Bool := isSmallS x p || isCapS x p
def lowS (x p : Int) : Int := if isCapS x p then (if decide (p = 2) && decide (144 ≤ x) then x + 80 else x + 32) else x
def Pg (p : Int) : Prop := p = 0 ∨ p = 1 ∨ p = 2
theorem ret_bb {a b : Bool} {x y : Int} (h : x = y) (h' : a = b) : Ending.returned (.tuple #[.int .u8 x, .bool a]) = .returned (.tuple #[.int .u8 y, .bool b]) := by rw [h, h']
theorem within_lt {x lo hi : Int} (h : withinB x lo hi = true) : lo ≤ x ∧ x ≤ hi := by simpa [withinB] using h
theorem within_any (x lo hi : Int) (w : World) : Calls Try.prog 47 #[.int .u8 x, .int .u8 lo, .int .u8 hi] w fun e w' => e = .returned (.bool (withinB x lo hi)) ∧ w = w' := by
  by_cases h1 : lo ≤ x
  · by_cases h2 : x ≤ hi
    · have d1 : decide (lo ≤ x) = true := by simpa using h1
      have d2 : decide (x ≤ hi) = true := by simpa using h2
      have Fin : Hid (withinB x lo hi = true) := by simp [Hid, withinB, h1, h2]
      go_enter Try.func47, Try.ntmps47
      go_wp2
      go_ret
      exact ⟨ret_bool Fin.out.symm, rfl⟩
    · have d1 : decide (lo ≤ x) = true := by simpa using h1
      have d2 : decide (x ≤ hi) = false := by simpa using h2
      have Fin : Hid (withinB x lo hi = false) := by simp [Hid, withinB]; omega
      go_enter Try.func47, Try.ntmps47
      go_wp2
      go_ret
      exact ⟨ret_bool Fin.out.symm, rfl⟩
  · have d1 : decide (lo ≤ x) = false := by simpa using h1
    have Fin : Hid (withinB x lo hi = false) := by simp [Hid, withinB]; omega
    go_enter Try.func47, Try.ntmps47
    go_wp2
    go_ret
    exact ⟨ret_bool Fin.out.symm, rfl⟩
set_option maxRecDepth 100000 in
set_option maxHeartbeats 1000000 in
theorem isCap_any (x p : Int) (hp : Pg p) (w : World) : Calls Try.prog 53 #[.int .u8 x, .int .i64 p] w fun e w' => e = .returned (.bool (isCapS x p)) ∧ w = w' := by
  rcases hp with rfl | rfl | rfl
  · rcases Bool.eq_false_or_eq_true (withinB x 65 90) with h1 | h1
    · go_enter Try.func53, Try.ntmps53
      go_wp2_with (go_at_call 47; refine (within_any _ _ _ _).mono ?_; rintro e w' ⟨rfl, rfl⟩)
      go_ret
      exact ⟨ret_bool (by simp [isCapS, h1]), rfl⟩
    · go_enter Try.func53, Try.ntmps53
      go_wp2_with (go_at_call 47; refine (within_any _ _ _ _).mono ?_; rintro e w' ⟨rfl, rfl⟩)
      go_ret
      exact ⟨ret_bool (by simp [isCapS, h1]), rfl⟩
  · rcases Bool.eq_false_or_eq_true (withinB x 65 90) with h1 | h1
    · rcases Bool.eq_false_or_eq_true (withinB x 192 222) with h2 | h2
      · rcases Bool.eq_false_or_eq_true (x != 215) with h3 | h3
        · go_enter Try.func53, Try.ntmps53
          go_wp2_with (go_at_call 47; refine (within_any _ _ _ _).mono ?_; rintro e w' ⟨rfl, rfl⟩)
          go_ret
          exact ⟨ret_bool (by simp [isCapS, h1, h2, h3]), rfl⟩
        · go_enter Try.func53, Try.ntmps53
          go_wp2_with (go_at_call 47; refine (within_any _ _ _ _).mono ?_; rintro e w' ⟨rfl, rfl⟩)
          go_ret
          exact ⟨ret_bool (by simp [isCapS, h1, h2, h3]), rfl⟩
      · rcases Bool.eq_false_or_eq_true (x != 215) with h3 | h3
        · go_enter Try.func53, Try.ntmps53
          go_wp2_with (go_at_call 47; refine (within_any _ _ _ _).mono ?_; rintro e w' ⟨rfl, rfl⟩)
          go_ret
          exact ⟨ret_bool (by simp [isCapS, h1, h2, h3]), rfl⟩
        · go_enter Try.func53, Try.ntmps53
          go_wp2_with (go_at_call 47; refine (within_any _ _ _ _).mono ?_; rintro e w' ⟨rfl, rfl⟩)
          go_ret
          exact ⟨ret_bool (by simp [isCapS, h1, h2, h3]), rfl⟩
    · rcases Bool.eq_false_or_eq_true (withinB x 192 222) with h2 | h2
      · rcases Bool.eq_false_or_eq_true (x != 215) with h3 | h3
        · go_enter Try.func53, Try.ntmps53
          go_wp2_with (go_at_call 47; refine (within_any _ _ _ _).mono ?_; rintro e w' ⟨rfl, rfl⟩)
          go_ret
          exact ⟨ret_bool (by simp [isCapS, h1, h2, h3]), rfl⟩
        · go_enter Try.func53, Try.ntmps53
          go_wp2_with (go_at_call 47; refine (within_any _ _ _ _).mono ?_; rintro e w' ⟨rfl, rfl⟩)
          go_ret
          exact ⟨ret_bool (by simp [isCapS, h1, h2, h3]), rfl⟩
      · rcases Bool.eq_false_or_eq_true (x != 215) with h3 | h3
        · go_enter Try.func53, Try.ntmps53
          go_wp2_with (go_at_call 47; refine (within_any _ _ _ _).mono ?_; rintro e w' ⟨rfl, rfl⟩)
          go_ret
          exact ⟨ret_bool (by simp [isCapS, h1, h2, h3]), rfl⟩
        · go_enter Try.func53, Try.ntmps53
          go_wp2_with (go_at_call 47; refine (within_any _ _ _ _).mono ?_; rintro e w' ⟨rfl, rfl⟩)
          go_ret
          exact ⟨ret_bool (by simp [isCapS, h1, h2, h3]), rfl⟩
  · rcases Bool.eq_false_or_eq_true (withinB x 65 90) with h1 | h1
    · rcases Bool.eq_false_or_eq_true (withinB x 128 159) with h4 | h4
      · go_enter Try.func53, Try.ntmps53
        go_wp2_with (go_at_call 47; refine (within_any _ _ _ _).mono ?_; rintro e w' ⟨rfl, rfl⟩)
        go_ret
        exact ⟨ret_bool (by simp [isCapS, h1, h4]), rfl⟩
      · go_enter Try.func53, Try.ntmps53
        go_wp2_with (go_at_call 47; refine (within_any _ _ _ _).mono ?_; rintro e w' ⟨rfl, rfl⟩)
        go_ret
        exact ⟨ret_bool (by simp [isCapS, h1, h4]), rfl⟩
    · rcases Bool.eq_false_or_eq_true (withinB x 128 159) with h4 | h4
      · go_enter Try.func53, Try.ntmps53
        go_wp2_with (go_at_call 47; refine (within_any _ _ _ _).mono ?_; rintro e w' ⟨rfl, rfl⟩)
        go_ret
        exact ⟨ret_bool (by simp [isCapS, h1, h4]), rfl⟩
      · go_enter Try.func53, Try.ntmps53
        go_wp2_with (go_at_call 47; refine (within_any _ _ _ _).mono ?_; rintro e w' ⟨rfl, rfl⟩)
        go_ret
        exact ⟨ret_bool (by simp [isCapS, h1, h4]), rfl⟩
set_option maxRecDepth 100000 in
set_option maxHeartbeats 1000000 in
theorem cap_any (x p : Int) (hp : Pg p) (w : World) (h0 : 0 ≤ x) (h255 : x ≤ 255) : Calls Try.prog 52 #[.int .u8 x, .int .i64 p] w fun e w' => e = .returned (.tuple #[.int .u8 (upS_ x p), .bool (isSmallS x p)]) ∧ w = w' := by
  rcases hp with rfl | rfl | rfl
  · rcases Bool.eq_false_or_eq_true (withinB x 97 122) with h1 | h1
    · go_enter Try.func52, Try.ntmps52
      go_wp2_with (go_at_call 47; refine (within_any _ _ _ _).mono ?_; rintro e w' ⟨rfl, rfl⟩)
      go_ret2
      exact ⟨ret_bb (by simp [upS_, isSmallA, isSmallB, h1]; try (simp [withinB] at h1; omega)) (by simp [isSmallS, isSmallA, isSmallB, h1]), rfl⟩
    · go_enter Try.func52, Try.ntmps52
      go_wp2_with (go_at_call 47; refine (within_any _ _ _ _).mono ?_; rintro e w' ⟨rfl, rfl⟩)
      go_ret2
      exact ⟨ret_bb (by simp [upS_, isSmallA, isSmallB, h1]; try (simp [withinB] at h1; omega)) (by simp [isSmallS, isSmallA, isSmallB, h1]), rfl⟩
  · rcases Bool.eq_false_or_eq_true (withinB x 97 122) with h1 | h1
    · rcases Bool.eq_false_or_eq_true (withinB x 224 254) with h2 | h2
      · rcases Bool.eq_false_or_eq_true (x != 247) with h3 | h3
        · go_enter Try.func52, Try.ntmps52
          go_wp2_with (go_at_call 47; refine (within_any _ _ _ _).mono ?_; rintro e w' ⟨rfl, rfl⟩)
          go_ret2
          exact ⟨ret_bb (by simp [upS_, isSmallA, isSmallB, h1, h2, h3]; try (simp [withinB] at h1 h2 h3; omega)) (by simp [isSmallS, isSmallA, isSmallB, h1, h2, h3]), rfl⟩
        · go_enter Try.func52, Try.ntmps52
          go_wp2_with (go_at_call 47; refine (within_any _ _ _ _).mono ?_; rintro e w' ⟨rfl, rfl⟩)
          go_ret2
          exact ⟨ret_bb (by simp [upS_, isSmallA, isSmallB, h1, h2, h3]; try (simp [withinB] at h1 h2 h3; omega)) (by simp [isSmallS, isSmallA, isSmallB, h1, h2, h3]), rfl⟩
      · rcases Bool.eq_false_or_eq_true (x != 247) with h3 | h3
        · go_enter Try.func52, Try.ntmps52
          go_wp2_with (go_at_call 47; refine (within_any _ _ _ _).mono ?_; rintro e w' ⟨rfl, rfl⟩)
          go_ret2
          exact ⟨ret_bb (by simp [upS_, isSmallA, isSmallB, h1, h2, h3]; try (simp [withinB] at h1 h2 h3; omega)) (by simp [isSmallS, isSmallA, isSmallB, h1, h2, h3]), rfl⟩
        · go_enter Try.func52, Try.ntmps52
          go_wp2_with (go_at_call 47; refine (within_any _ _ _ _).mono ?_; rintro e w' ⟨rfl, rfl⟩)
          go_ret2
          exact ⟨ret_bb (by simp [upS_, isSmallA, isSmallB, h1, h2, h3]; try (simp [withinB] at h1 h2 h3; omega)) (by simp [isSmallS, isSmallA, isSmallB, h1, h2, h3]), rfl⟩
    · rcases Bool.eq_false_or_eq_true (withinB x 224 254) with h2 | h2
      · rcases Bool.eq_false_or_eq_true (x != 247) with h3 | h3
        · go_enter Try.func52, Try.ntmps52
          go_wp2_with (go_at_call 47; refine (within_any _ _ _ _).mono ?_; rintro e w' ⟨rfl, rfl⟩)
          go_ret2
          exact ⟨ret_bb (by simp [upS_, isSmallA, isSmallB, h1, h2, h3]; try (simp [withinB] at h1 h2 h3; omega)) (by simp [isSmallS, isSmallA, isSmallB, h1, h2, h3]), rfl⟩
        · go_enter Try.func52, Try.ntmps52
          go_wp2_with (go_at_call 47; refine (within_any _ _ _ _).mono ?_; rintro e w' ⟨rfl, rfl⟩)
          go_ret2
          exact ⟨ret_bb (by simp [upS_, isSmallA, isSmallB, h1, h2, h3]; try (simp [withinB] at h1 h2 h3; omega)) (by simp [isSmallS, isSmallA, isSmallB, h1, h2, h3]), rfl⟩
      · rcases Bool.eq_false_or_eq_true (x != 247) with h3 | h3
        · go_enter Try.func52, Try.ntmps52
          go_wp2_with (go_at_call 47; refine (within_any _ _ _ _).mono ?_; rintro e w' ⟨rfl, rfl⟩)
          go_ret2
          exact ⟨ret_bb (by simp [upS_, isSmallA, isSmallB, h1, h2, h3]; try (simp [withinB] at h1 h2 h3; omega)) (by simp [isSmallS, isSmallA, isSmallB, h1, h2, h3]), rfl⟩
        · go_enter Try.func52, Try.ntmps52
          go_wp2_with (go_at_call 47; refine (within_any _ _ _ _).mono ?_; rintro e w' ⟨rfl, rfl⟩)
          go_ret2
          exact ⟨ret_bb (by simp [upS_, isSmallA, isSmallB, h1, h2, h3]; try (simp [withinB] at h1 h2 h3; omega)) (by simp [isSmallS, isSmallA, isSmallB, h1, h2, h3]), rfl⟩
  · rcases Bool.eq_false_or_eq_true (withinB x 97 122) with h1 | h1
    · rcases Bool.eq_false_or_eq_true (withinB x 160 175) with h4 | h4
      · rcases Bool.eq_false_or_eq_true (withinB x 224 239) with h5 | h5
        · go_enter Try.func52, Try.ntmps52
          go_wp2_with (go_at_call 47; refine (within_any _ _ _ _).mono ?_; rintro e w' ⟨rfl, rfl⟩)
          go_ret2
          exact ⟨ret_bb (by simp [upS_, isSmallA, isSmallB, h1, h4, h5]; try (simp [withinB] at h1 h4 h5; omega)) (by simp [isSmallS, isSmallA, isSmallB, h1, h4, h5]), rfl⟩
        · go_enter Try.func52, Try.ntmps52
          go_wp2_with (go_at_call 47; refine (within_any _ _ _ _).mono ?_; rintro e w' ⟨rfl, rfl⟩)
          go_ret2
          exact ⟨ret_bb (by simp [upS_, isSmallA, isSmallB, h1, h4, h5]; try (simp [withinB] at h1 h4 h5; omega)) (by simp [isSmallS, isSmallA, isSmallB, h1, h4, h5]), rfl⟩
      · rcases Bool.eq_false_or_eq_true (withinB x 224 239) with h5 | h5
        · go_enter Try.func52, Try.ntmps52
          go_wp2_with (go_at_call 47; refine (within_any _ _ _ _).mono ?_; rintro e w' ⟨rfl, rfl⟩)
          go_ret2
          exact ⟨ret_bb (by simp [upS_, isSmallA, isSmallB, h1, h4, h5]; try (simp [withinB] at h1 h4 h5; omega)) (by simp [isSmallS, isSmallA, isSmallB, h1, h4, h5]), rfl⟩
        · go_enter Try.func52, Try.ntmps52
          go_wp2_with (go_at_call 47; refine (within_any _ _ _ _).mono ?_; rintro e w' ⟨rfl, rfl⟩)
          go_ret2
          exact ⟨ret_bb (by simp [upS_, isSmallA, isSmallB, h1, h4, h5]; try (simp [withinB] at h1 h4 h5; omega)) (by simp [isSmallS, isSmallA, isSmallB, h1, h4, h5]), rfl⟩
    · rcases Bool.eq_false_or_eq_true (withinB x 160 175) with h4 | h4
      · rcases Bool.eq_false_or_eq_true (withinB x 224 239) with h5 | h5
        · go_enter Try.func52, Try.ntmps52
          go_wp2_with (go_at_call 47; refine (within_any _ _ _ _).mono ?_; rintro e w' ⟨rfl, rfl⟩)
          go_ret2
          exact ⟨ret_bb (by simp [upS_, isSmallA, isSmallB, h1, h4, h5]; try (simp [withinB] at h1 h4 h5; omega)) (by simp [isSmallS, isSmallA, isSmallB, h1, h4, h5]), rfl⟩
        · go_enter Try.func52, Try.ntmps52
          go_wp2_with (go_at_call 47; refine (within_any _ _ _ _).mono ?_; rintro e w' ⟨rfl, rfl⟩)
          go_ret2
          exact ⟨ret_bb (by simp [upS_, isSmallA, isSmallB, h1, h4, h5]; try (simp [withinB] at h1 h4 h5; omega)) (by simp [isSmallS, isSmallA, isSmallB, h1, h4, h5]), rfl⟩
      · rcases Bool.eq_false_or_eq_true (withinB x 224 239) with h5 | h5
        · go_enter Try.func52, Try.ntmps52
          go_wp2_with (go_at_call 47; refine (within_any _ _ _ _).mono ?_; rintro e w' ⟨rfl, rfl⟩)
          go_ret2
          exact ⟨ret_bb (by simp [upS_, isSmallA, isSmallB, h1, h4, h5]; try (simp [withinB] at h1 h4 h5; omega)) (by simp [isSmallS, isSmallA, isSmallB, h1, h4, h5]), rfl⟩
        · go_enter Try.func52, Try.ntmps52
          go_wp2_with (go_at_call 47; refine (within_any _ _ _ _).mono ?_; rintro e w' ⟨rfl, rfl⟩)
          go_ret2
          exact ⟨ret_bb (by simp [upS_, isSmallA, isSmallB, h1, h4, h5]; try (simp [withinB] at h1 h4 h5; omega)) (by simp [isSmallS, isSmallA, isSmallB, h1, h4, h5]), rfl⟩
theorem isLet_any (x p : Int) (hp : Pg p) (w : World) (h0 : 0 ≤ x) (h255 : x ≤ 255) : Calls Try.prog 31 #[.int .u8 x, .int .i64 p] w fun e w' => e = .returned (.bool (isLetS x p)) ∧ w = w' := by
  rcases Bool.eq_false_or_eq_true (isSmallS x p) with h | h
  · go_enter Try.func31, Try.ntmps31
    go_wp2_with fail
    refine (cap_any _ _ hp _ h0 h255).mono ?_
    rintro e w' ⟨rfl, rfl⟩
    go_wp2_with fail
    go_ret
    exact ⟨ret_bool (by simp [isLetS, h]), rfl⟩
  · go_enter Try.func31, Try.ntmps31
    go_wp2_with fail
    refine (cap_any _ _ hp _ h0 h255).mono ?_
    rintro e w' ⟨rfl, rfl⟩
    go_wp2_with fail
    refine (isCap_any _ _ hp _).mono ?_
    rintro e w' ⟨rfl, rfl⟩
    go_wp2_with fail
    go_ret
    exact ⟨ret_bool (by simp [isLetS, h]), rfl⟩
theorem upper_any (x p : Int) (hp : Pg p) (w : World) (h0 : 0 ≤ x) (h255 : x ≤ 255) : Calls Try.prog 32 #[.int .u8 x, .int .i64 p] w fun e w' => e = .returned (.int .u8 (upS_ x p)) ∧ w = w' := by
  go_enter Try.func32, Try.ntmps32
  go_wp2_with fail
  refine (cap_any _ _ hp _ h0 h255).mono ?_
  rintro e w' ⟨rfl, rfl⟩
  go_wp2_with fail
  go_ret
  exact ⟨rfl, rfl⟩
theorem cap_bounds {x p : Int} (h : isCapS x p = true) : x ≤ 222 ∧ (p ≠ 2 ∨ x ≤ 159) := by
  simp [isCapS, withinB] at h
  omega
theorem lower_any (x p : Int) (hp : Pg p) (w : World) (h0 : 0 ≤ x) (h255 : x ≤ 255) : Calls Try.prog 43 #[.int .u8 x, .int .i64 p] w fun e w' => e = .returned (.int .u8 (lowS x p)) ∧ w = w' := by
  rcases Bool.eq_false_or_eq_true (isCapS x p) with h | h
  · have hb := cap_bounds h
    by_cases h2 : p = 2
    · subst h2
      by_cases h3 : 144 ≤ x
      · have d3 : decide ((144 : Int) ≤ x) = true := by simpa using h3
        have Fin : Hid (lowS x 2 = x + 80) := by simp [Hid, lowS, h, h3]
        go_enter Try.func43, Try.ntmps43
        go_wp2_with fail
        refine (isCap_any _ _ hp _).mono ?_
        rintro e w' ⟨rfl, rfl⟩
        go_wp2_with fail
        go_ret
        exact ⟨ret_int (by rw [Fin.out]), rfl⟩
      · have d3 : decide ((144 : Int) ≤ x) = false := by simpa using h3
        have Fin : Hid (lowS x 2 = x + 32) := by simp [Hid, lowS, h]; omega
        go_enter Try.func43, Try.ntmps43
        go_wp2_with fail
        refine (isCap_any _ _ hp _).mono ?_
        rintro e w' ⟨rfl, rfl⟩
        go_wp2_with fail
        go_ret
        exact ⟨ret_int (by rw [Fin.out]), rfl⟩
    · have d2 : (p == 2) = false := by simpa using h2
      have Fin : Hid (lowS x p = x + 32) := by simp [Hid, lowS, h, h2]
      go_enter Try.func43, Try.ntmps43
      go_wp2_with fail
      refine (isCap_any _ _ hp _).mono ?_
      rintro e w' ⟨rfl, rfl⟩
      go_wp2_with fail
      go_ret
      exact ⟨ret_int (by rw [Fin.out]), rfl⟩
  · have Fin : Hid (lowS x p = x) := by simp [Hid, lowS, h]
    go_enter Try.func43, Try.ntmps43
    go_wp2_with fail
    refine (isCap_any _ _ hp _).mono ?_
    rintro e w' ⟨rfl, rfl⟩
    go_wp2_with fail
    go_ret
    exact ⟨ret_int Fin.out.symm, rfl⟩

def plainS (x : Int) : Int :=
  if withinB x 192 197 then 65 else if x == 199 then 67 else if withinB x 200 203 then 69 else if withinB x 204 207 then 73 else if x == 209 then 78 else
  if withinB x 210 214 then 79 else if withinB x 217 220 then 85 else if x == 221 then 89 else x
def weightS (x p c : Int) : Int := if c == 0 || !isLetS x p then x else if p == 1 then plainS (upS_ x p) else upS_ x p
set_option maxRecDepth 100000 in
set_option maxHeartbeats 1000000 in
theorem plain_any (x : Int) (w : World) : Calls Try.prog 56 #[.int .u8 x] w fun e w' => e = .returned (.int .u8 (plainS x)) ∧ w = w' := by
  rcases Bool.eq_false_or_eq_true (withinB x 192 197) with a1 | a1
  · go_enter Try.func56, Try.ntmps56
    go_wp2_with (go_at_call 47; refine (within_any _ _ _ _).mono ?_; rintro e w' ⟨rfl, rfl⟩)
    go_ret
    exact ⟨ret_int (by simp [plainS, a1]), rfl⟩
  · rcases Bool.eq_false_or_eq_true (x == 199) with a2 | a2
    · go_enter Try.func56, Try.ntmps56
      go_wp2_with (go_at_call 47; refine (within_any _ _ _ _).mono ?_; rintro e w' ⟨rfl, rfl⟩)
      go_ret
      exact ⟨ret_int (by simp [plainS, a1, a2]), rfl⟩
    · rcases Bool.eq_false_or_eq_true (withinB x 200 203) with a3 | a3
      · go_enter Try.func56, Try.ntmps56
        go_wp2_with (go_at_call 47; refine (within_any _ _ _ _).mono ?_; rintro e w' ⟨rfl, rfl⟩)
        go_ret
        exact ⟨ret_int (by simp [plainS, a1, a2, a3]), rfl⟩
      · rcases Bool.eq_false_or_eq_true (withinB x 204 207) with a4 | a4
        · go_enter Try.func56, Try.ntmps56
          go_wp2_with (go_at_call 47; refine (within_any _ _ _ _).mono ?_; rintro e w' ⟨rfl, rfl⟩)
          go_ret
          exact ⟨ret_int (by simp [plainS, a1, a2, a3, a4]), rfl⟩
        · rcases Bool.eq_false_or_eq_true (x == 209) with a5 | a5
          · go_enter Try.func56, Try.ntmps56
            go_wp2_with (go_at_call 47; refine (within_any _ _ _ _).mono ?_; rintro e w' ⟨rfl, rfl⟩)
            go_ret
            exact ⟨ret_int (by simp [plainS, a1, a2, a3, a4, a5]), rfl⟩
          · rcases Bool.eq_false_or_eq_true (withinB x 210 214) with a6 | a6
            · go_enter Try.func56, Try.ntmps56
              go_wp2_with (go_at_call 47; refine (within_any _ _ _ _).mono ?_; rintro e w' ⟨rfl, rfl⟩)
              go_ret
              exact ⟨ret_int (by simp [plainS, a1, a2, a3, a4, a5, a6]), rfl⟩
            · rcases Bool.eq_false_or_eq_true (withinB x 217 220) with a7 | a7
              · go_enter Try.func56, Try.ntmps56
                go_wp2_with (go_at_call 47; refine (within_any _ _ _ _).mono ?_; rintro e w' ⟨rfl, rfl⟩)
                go_ret
                exact ⟨ret_int (by simp [plainS, a1, a2, a3, a4, a5, a6, a7]), rfl⟩
              · rcases Bool.eq_false_or_eq_true (x == 221) with a8 | a8
                · go_enter Try.func56, Try.ntmps56
                  go_wp2_with (go_at_call 47; refine (within_any _ _ _ _).mono ?_; rintro e w' ⟨rfl, rfl⟩)
                  go_ret
                  exact ⟨ret_int (by simp [plainS, a1, a2, a3, a4, a5, a6, a7, a8]), rfl⟩
                · go_enter Try.func56, Try.ntmps56
                  go_wp2_with (go_at_call 47; refine (within_any _ _ _ _).mono ?_; rintro e w' ⟨rfl, rfl⟩)
                  go_ret
                  exact ⟨ret_int (by simp [plainS, a1, a2, a3, a4, a5, a6, a7, a8]), rfl⟩
theorem upS_rng {x p : Int} (h0 : 0 ≤ x) (h255 : x ≤ 255) : 0 ≤ upS_ x p ∧ upS_ x p ≤ 255 := by
  unfold upS_
  split
  · rename_i h; simp [isSmallA, withinB] at h; omega
  · split
    · rename_i h; simp [isSmallB, withinB] at h; omega
    · omega
theorem lowS_rng {x p : Int} (h0 : 0 ≤ x) (h255 : x ≤ 255) : 0 ≤ lowS x p ∧ lowS x p ≤ 255 := by
  unfold lowS
  split
  · rename_i h
    have := cap_bounds h
    split
    · rename_i h2; simp at h2; omega
    · omega
  · omega
theorem plainS_rng {x : Int} (h0 : 0 ≤ x) (h255 : x ≤ 255) : 0 ≤ plainS x ∧ plainS x ≤ 255 := by
  unfold plainS
  repeat' split
  all_goals omega
theorem weightS_rng {x p c : Int} (h0 : 0 ≤ x) (h255 : x ≤ 255) : 0 ≤ weightS x p c ∧ weightS x p c ≤ 255 := by
  have h := upS_rng (x := x) (p := p) h0 h255
  unfold weightS
  split
  · omega
  · split
    · exact plainS_rng h.1 h.2
    · exact h
set_option maxRecDepth 100000 in
set_option maxHeartbeats 1000000 in
theorem weight_any (x p c : Int) (hp : Pg p) (w : World) (h0 : 0 ≤ x) (h255 : x ≤ 255) : Calls Try.prog 45 #[.int .u8 x, .int .i64 p, .int .i64 c] w fun e w' => e = .returned (.int .u8 (weightS x p c)) ∧ w = w' := by
  rcases Bool.eq_false_or_eq_true (c == 0) with hc | hc
  · go_enter Try.func45, Try.ntmps45
    go_wp2_with fail
    go_ret
    exact ⟨ret_int (by simp [weightS, hc]), rfl⟩
  · rcases Bool.eq_false_or_eq_true (isLetS x p) with hl | hl
    · rcases Bool.eq_false_or_eq_true (p == 1) with h1 | h1
      · go_enter Try.func45, Try.ntmps45
        go_wp2_with fail
        refine (isLet_any _ _ hp _ h0 h255).mono ?_
        rintro e w' ⟨rfl, rfl⟩
        go_wp2_with fail
        refine (upper_any _ _ hp _ h0 h255).mono ?_
        rintro e w' ⟨rfl, rfl⟩
        go_wp2_with fail
        refine (plain_any _ _).mono ?_
        rintro e w' ⟨rfl, rfl⟩
        go_wp2_with fail
        go_ret
        exact ⟨ret_int (by simp [weightS, hc, hl, h1]), rfl⟩
      · go_enter Try.func45, Try.ntmps45
        go_wp2_with fail
        refine (isLet_any _ _ hp _ h0 h255).mono ?_
        rintro e w' ⟨rfl, rfl⟩
        go_wp2_with fail
        refine (upper_any _ _ hp _ h0 h255).mono ?_
        rintro e w' ⟨rfl, rfl⟩
        go_wp2_with fail
        go_ret
        exact ⟨ret_int (by simp [weightS, hc, hl, h1]), rfl⟩
    · go_enter Try.func45, Try.ntmps45
      go_wp2_with fail
      refine (isLet_any _ _ hp _ h0 h255).mono ?_
      rintro e w' ⟨rfl, rfl⟩
      go_wp2_with fail
      go_ret
      exact ⟨ret_int (by simp [weightS, hl]), rfl⟩
end Go.Proofs.Ytlhnabkfacmmnaa
