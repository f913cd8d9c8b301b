/-
  Contracts that were proved for another law's share, for this one.
-/
import Derived.Test.YtlhnabkfacmmnaaDoorProg
import Derived.Test.YtlhnabkfacmmnaaDoorBase
import Derived.Laws.IdiomStrings
import Derived.IntWalk
namespace Go.Proofs.YtlhnabkfacmmnaaDoor
open Go.RowKit
set_option linter.unusedVariables false
set_option linter.unusedSimpArgs false
def withinB (x lo hi : Int) : Bool := decide (lo ≤ x) && decide (x ≤ hi)
def isCapS (x p : Int) : Bool := withinB x 65 90 || (decide (p = 1) && withinB x 192 222 && x != 215) || (decide (p = 2) && withinB x 128 159)
def isSmallA (x p : Int) : Bool := withinB x 97 122 || (decide (p = 1) && withinB x 224 254 && x != 247) || (decide (p = 2) && withinB x 160 175)
def isSmallB (x p : Int) : Bool := decide (p = 2) && withinB x 224 239
def isSmallS (x p : Int) : Bool := isSmallA x p || isSmallB x p
def upS_ (x p : Int) : Int := if isSmallA x p then x - 32 else if isSmallB x p then x - 80 else x
def isLetS (x p : Int) : Bool := isSmallS x p || isCapS x p
def lowS (x p : Int) : Int := if isCapS x p then (if decide (p = 2) && decide (144 ≤ x) then x + 80 else x + 32) else x
def Pg (p : Int) : Prop := p = 0 ∨ p = 1 ∨ p = 2
theorem ret_bb {a b : Bool} {x y : Int} (h : x = y) (h' : a = b) : Ending.returned (.tuple #[.int .u8 x, .bool a]) = .returned (.tuple #[.int .u8 y, .bool b]) := by rw [h, h']
theorem within_lt {x lo hi : Int} (h : withinB x lo hi = true) : lo ≤ x ∧ x ≤ hi := by simpa [withinB] using h
theorem within_any (x lo hi : Int) (w : World) : Calls Tryd.prog 39 #[.int .u8 x, .int .u8 lo, .int .u8 hi] w fun e w' => e = .returned (.bool (withinB x lo hi)) ∧ w = w' := by
  by_cases h1 : lo ≤ x
  · by_cases h2 : x ≤ hi
    · have d1 : decide (lo ≤ x) = true := by simpa using h1
      have d2 : decide (x ≤ hi) = true := by simpa using h2
      have Fin : Hid (withinB x lo hi = true) := by simp [Hid, withinB, h1, h2]
      go_enter Tryd.func39, Tryd.ntmps39
      go_wp2
      go_ret
      exact ⟨ret_bool Fin.out.symm, rfl⟩
    · have d1 : decide (lo ≤ x) = true := by simpa using h1
      have d2 : decide (x ≤ hi) = false := by simpa using h2
      have Fin : Hid (withinB x lo hi = false) := by simp [Hid, withinB]; omega
      go_enter Tryd.func39, Tryd.ntmps39
      go_wp2
      go_ret
      exact ⟨ret_bool Fin.out.symm, rfl⟩
  · have d1 : decide (lo ≤ x) = false := by simpa using h1
    have Fin : Hid (withinB x lo hi = false) := by simp [Hid, withinB]; omega
    go_enter Tryd.func39, Tryd.ntmps39
    go_wp2
    go_ret
    exact ⟨ret_bool Fin.out.symm, rfl⟩
set_option maxRecDepth 100000 in
set_option maxHeartbeats 1000000 in
theorem isCap_any (x p : Int) (hp : Pg p) (w : World) : Calls Tryd.prog 36 #[.int .u8 x, .int .i64 p] w fun e w' => e = .returned (.bool (isCapS x p)) ∧ w = w' := by
  rcases hp with rfl | rfl | rfl
  · rcases Bool.eq_false_or_eq_true (withinB x 65 90) with h1 | h1
    · go_enter Tryd.func36, Tryd.ntmps36
      go_wp2_with (go_at_call 39; refine (within_any _ _ _ _).mono ?_; rintro e w' ⟨rfl, rfl⟩)
      go_ret
      exact ⟨ret_bool (by simp [isCapS, h1]), rfl⟩
    · go_enter Tryd.func36, Tryd.ntmps36
      go_wp2_with (go_at_call 39; refine (within_any _ _ _ _).mono ?_; rintro e w' ⟨rfl, rfl⟩)
      go_ret
      exact ⟨ret_bool (by simp [isCapS, h1]), rfl⟩
  · rcases Bool.eq_false_or_eq_true (withinB x 65 90) with h1 | h1
    · rcases Bool.eq_false_or_eq_true (withinB x 192 222) with h2 | h2
      · rcases Bool.eq_false_or_eq_true (x != 215) with h3 | h3
        · go_enter Tryd.func36, Tryd.ntmps36
          go_wp2_with (go_at_call 39; refine (within_any _ _ _ _).mono ?_; rintro e w' ⟨rfl, rfl⟩)
          go_ret
          exact ⟨ret_bool (by simp [isCapS, h1, h2, h3]), rfl⟩
        · go_enter Tryd.func36, Tryd.ntmps36
          go_wp2_with (go_at_call 39; refine (within_any _ _ _ _).mono ?_; rintro e w' ⟨rfl, rfl⟩)
          go_ret
          exact ⟨ret_bool (by simp [isCapS, h1, h2, h3]), rfl⟩
      · rcases Bool.eq_false_or_eq_true (x != 215) with h3 | h3
        · go_enter Tryd.func36, Tryd.ntmps36
          go_wp2_with (go_at_call 39; refine (within_any _ _ _ _).mono ?_; rintro e w' ⟨rfl, rfl⟩)
          go_ret
          exact ⟨ret_bool (by simp [isCapS, h1, h2, h3]), rfl⟩
        · go_enter Tryd.func36, Tryd.ntmps36
          go_wp2_with (go_at_call 39; refine (within_any _ _ _ _).mono ?_; rintro e w' ⟨rfl, rfl⟩)
          go_ret
          exact ⟨ret_bool (by simp [isCapS, h1, h2, h3]), rfl⟩
    · rcases Bool.eq_false_or_eq_true (withinB x 192 222) with h2 | h2
      · rcases Bool.eq_false_or_eq_true (x != 215) with h3 | h3
        · go_enter Tryd.func36, Tryd.ntmps36
          go_wp2_with (go_at_call 39; refine (within_any _ _ _ _).mono ?_; rintro e w' ⟨rfl, rfl⟩)
          go_ret
          exact ⟨ret_bool (by simp [isCapS, h1, h2, h3]), rfl⟩
        · go_enter Tryd.func36, Tryd.ntmps36
          go_wp2_with (go_at_call 39; refine (within_any _ _ _ _).mono ?_; rintro e w' ⟨rfl, rfl⟩)
          go_ret
          exact ⟨ret_bool (by simp [isCapS, h1, h2, h3]), rfl⟩
      · rcases Bool.eq_false_or_eq_true (x != 215) with h3 | h3
        · go_enter Tryd.func36, Tryd.ntmps36
          go_wp2_with (go_at_call 39; refine (within_any _ _ _ _).mono ?_; rintro e w' ⟨rfl, rfl⟩)
          go_ret
          exact ⟨ret_bool (by simp [isCapS, h1, h2, h3]), rfl⟩
        · go_enter Tryd.func36, Tryd.ntmps36
          go_wp2_with (go_at_call 39; refine (within_any _ _ _ _).mono ?_; rintro e w' ⟨rfl, rfl⟩)
          go_ret
          exact ⟨ret_bool (by simp [isCapS, h1, h2, h3]), rfl⟩
  · rcases Bool.eq_false_or_eq_true (withinB x 65 90) with h1 | h1
    · rcases Bool.eq_false_or_eq_true (withinB x 128 159) with h4 | h4
      · go_enter Tryd.func36, Tryd.ntmps36
        go_wp2_with (go_at_call 39; refine (within_any _ _ _ _).mono ?_; rintro e w' ⟨rfl, rfl⟩)
        go_ret
        exact ⟨ret_bool (by simp [isCapS, h1, h4]), rfl⟩
      · go_enter Tryd.func36, Tryd.ntmps36
        go_wp2_with (go_at_call 39; refine (within_any _ _ _ _).mono ?_; rintro e w' ⟨rfl, rfl⟩)
        go_ret
        exact ⟨ret_bool (by simp [isCapS, h1, h4]), rfl⟩
    · rcases Bool.eq_false_or_eq_true (withinB x 128 159) with h4 | h4
      · go_enter Tryd.func36, Tryd.ntmps36
        go_wp2_with (go_at_call 39; refine (within_any _ _ _ _).mono ?_; rintro e w' ⟨rfl, rfl⟩)
        go_ret
        exact ⟨ret_bool (by simp [isCapS, h1, h4]), rfl⟩
      · go_enter Tryd.func36, Tryd.ntmps36
        go_wp2_with (go_at_call 39; refine (within_any _ _ _ _).mono ?_; rintro e w' ⟨rfl, rfl⟩)
        go_ret
        exact ⟨ret_bool (by simp [isCapS, h1, h4]), rfl⟩
set_option maxRecDepth 100000 in
set_option maxHeartbeats 1000000 in
theorem cap_any (x p : Int) (hp : Pg p) (w : World) (h0 : 0 ≤ x) (h255 : x ≤ 255) : Calls Tryd.prog 34 #[.int .u8 x, .int .i64 p] w fun e w' => e = .returned (.tuple #[.int .u8 (upS_ x p), .bool (isSmallS x p)]) ∧ w = w' := by
  rcases hp with rfl | rfl | rfl
  · rcases Bool.eq_false_or_eq_true (withinB x 97 122) with h1 | h1
    · go_enter Tryd.func34, Tryd.ntmps34
      go_wp2_with (go_at_call 39; refine (within_any _ _ _ _).mono ?_; rintro e w' ⟨rfl, rfl⟩)
      go_ret2
      exact ⟨ret_bb (by simp [upS_, isSmallA, isSmallB, h1]; try (simp [withinB] at h1; omega)) (by simp [isSmallS, isSmallA, isSmallB, h1]), rfl⟩
    · go_enter Tryd.func34, Tryd.ntmps34
      go_wp2_with (go_at_call 39; refine (within_any _ _ _ _).mono ?_; rintro e w' ⟨rfl, rfl⟩)
      go_ret2
      exact ⟨ret_bb (by simp [upS_, isSmallA, isSmallB, h1]; try (simp [withinB] at h1; omega)) (by simp [isSmallS, isSmallA, isSmallB, h1]), rfl⟩
  · rcases Bool.eq_false_or_eq_true (withinB x 97 122) with h1 | h1
    · rcases Bool.eq_false_or_eq_true (withinB x 224 254) with h2 | h2
      · rcases Bool.eq_false_or_eq_true (x != 247) with h3 | h3
        · go_enter Tryd.func34, Tryd.ntmps34
          go_wp2_with (go_at_call 39; refine (within_any _ _ _ _).mono ?_; rintro e w' ⟨rfl, rfl⟩)
          go_ret2
          exact ⟨ret_bb (by simp [upS_, isSmallA, isSmallB, h1, h2, h3]; try (simp [withinB] at h1 h2 h3; omega)) (by simp [isSmallS, isSmallA, isSmallB, h1, h2, h3]), rfl⟩
        · go_enter Tryd.func34, Tryd.ntmps34
          go_wp2_with (go_at_call 39; refine (within_any _ _ _ _).mono ?_; rintro e w' ⟨rfl, rfl⟩)
          go_ret2
          exact ⟨ret_bb (by simp [upS_, isSmallA, isSmallB, h1, h2, h3]; try (simp [withinB] at h1 h2 h3; omega)) (by simp [isSmallS, isSmallA, isSmallB, h1, h2, h3]), rfl⟩
      · rcases Bool.eq_false_or_eq_true (x != 247) with h3 | h3
        · go_enter Tryd.func34, Tryd.ntmps34
          go_wp2_with (go_at_call 39; refine (within_any _ _ _ _).mono ?_; rintro e w' ⟨rfl, rfl⟩)
          go_ret2
          exact ⟨ret_bb (by simp [upS_, isSmallA, isSmallB, h1, h2, h3]; try (simp [withinB] at h1 h2 h3; omega)) (by simp [isSmallS, isSmallA, isSmallB, h1, h2, h3]), rfl⟩
        · go_enter Tryd.func34, Tryd.ntmps34
          go_wp2_with (go_at_call 39; refine (within_any _ _ _ _).mono ?_; rintro e w' ⟨rfl, rfl⟩)
          go_ret2
          exact ⟨ret_bb (by simp [upS_, isSmallA, isSmallB, h1, h2, h3]; try (simp [withinB] at h1 h2 h3; omega)) (by simp [isSmallS, isSmallA, isSmallB, h1, h2, h3]), rfl⟩
    · rcases Bool.eq_false_or_eq_true (withinB x 224 254) with h2 | h2
      · rcases Bool.eq_false_or_eq_true (x != 247) with h3 | h3
        · go_enter Tryd.func34, Tryd.ntmps34
          go_wp2_with (go_at_call 39; refine (within_any _ _ _ _).mono ?_; rintro e w' ⟨rfl, rfl⟩)
          go_ret2
          exact ⟨ret_bb (by simp [upS_, isSmallA, isSmallB, h1, h2, h3]; try (simp [withinB] at h1 h2 h3; omega)) (by simp [isSmallS, isSmallA, isSmallB, h1, h2, h3]), rfl⟩
        · go_enter Tryd.func34, Tryd.ntmps34
          go_wp2_with (go_at_call 39; refine (within_any _ _ _ _).mono ?_; rintro e w' ⟨rfl, rfl⟩)
          go_ret2
          exact ⟨ret_bb (by simp [upS_, isSmallA, isSmallB, h1, h2, h3]; try (simp [withinB] at h1 h2 h3; omega)) (by simp [isSmallS, isSmallA, isSmallB, h1, h2, h3]), rfl⟩
      · rcases Bool.eq_false_or_eq_true (x != 247) with h3 | h3
        · go_enter Tryd.func34, Tryd.ntmps34
          go_wp2_with (go_at_call 39; refine (within_any _ _ _ _).mono ?_; rintro e w' ⟨rfl, rfl⟩)
          go_ret2
          exact ⟨ret_bb (by simp [upS_, isSmallA, isSmallB, h1, h2, h3]; try (simp [withinB] at h1 h2 h3; omega)) (by simp [isSmallS, isSmallA, isSmallB, h1, h2, h3]), rfl⟩
        · go_enter Tryd.func34, Tryd.ntmps34
          go_wp2_with (go_at_call 39; refine (within_any _ _ _ _).mono ?_; rintro e w' ⟨rfl, rfl⟩)
          go_ret2
          exact ⟨ret_bb (by simp [upS_, isSmallA, isSmallB, h1, h2, h3]; try (simp [withinB] at h1 h2 h3; omega)) (by simp [isSmallS, isSmallA, isSmallB, h1, h2, h3]), rfl⟩
  · rcases Bool.eq_false_or_eq_true (withinB x 97 122) with h1 | h1
    · rcases Bool.eq_false_or_eq_true (withinB x 160 175) with h4 | h4
      · rcases Bool.eq_false_or_eq_true (withinB x 224 239) with h5 | h5
        · go_enter Tryd.func34, Tryd.ntmps34
          go_wp2_with (go_at_call 39; refine (within_any _ _ _ _).mono ?_; rintro e w' ⟨rfl, rfl⟩)
          go_ret2
          exact ⟨ret_bb (by simp [upS_, isSmallA, isSmallB, h1, h4, h5]; try (simp [withinB] at h1 h4 h5; omega)) (by simp [isSmallS, isSmallA, isSmallB, h1, h4, h5]), rfl⟩
        · go_enter Tryd.func34, Tryd.ntmps34
          go_wp2_with (go_at_call 39; refine (within_any _ _ _ _).mono ?_; rintro e w' ⟨rfl, rfl⟩)
          go_ret2
          exact ⟨ret_bb (by simp [upS_, isSmallA, isSmallB, h1, h4, h5]; try (simp [withinB] at h1 h4 h5; omega)) (by simp [isSmallS, isSmallA, isSmallB, h1, h4, h5]), rfl⟩
      · rcases Bool.eq_false_or_eq_true (withinB x 224 239) with h5 | h5
        · go_enter Tryd.func34, Tryd.ntmps34
          go_wp2_with (go_at_call 39; refine (within_any _ _ _ _).mono ?_; rintro e w' ⟨rfl, rfl⟩)
          go_ret2
          exact ⟨ret_bb (by simp [upS_, isSmallA, isSmallB, h1, h4, h5]; try (simp [withinB] at h1 h4 h5; omega)) (by simp [isSmallS, isSmallA, isSmallB, h1, h4, h5]), rfl⟩
        · go_enter Tryd.func34, Tryd.ntmps34
          go_wp2_with (go_at_call 39; refine (within_any _ _ _ _).mono ?_; rintro e w' ⟨rfl, rfl⟩)
          go_ret2
          exact ⟨ret_bb (by simp [upS_, isSmallA, isSmallB, h1, h4, h5]; try (simp [withinB] at h1 h4 h5; omega)) (by simp [isSmallS, isSmallA, isSmallB, h1, h4, h5]), rfl⟩
    · rcases Bool.eq_false_or_eq_true (withinB x 160 175) with h4 | h4
      · rcases Bool.eq_false_or_eq_true (withinB x 224 239) with h5 | h5
        · go_enter Tryd.func34, Tryd.ntmps34
          go_wp2_with (go_at_call 39; refine (within_any _ _ _ _).mono ?_; rintro e w' ⟨rfl, rfl⟩)
          go_ret2
          exact ⟨ret_bb (by simp [upS_, isSmallA, isSmallB, h1, h4, h5]; try (simp [withinB] at h1 h4 h5; omega)) (by simp [isSmallS, isSmallA, isSmallB, h1, h4, h5]), rfl⟩
        · go_enter Tryd.func34, Tryd.ntmps34
          go_wp2_with (go_at_call 39; refine (within_any _ _ _ _).mono ?_; rintro e w' ⟨rfl, rfl⟩)
          go_ret2
          exact ⟨ret_bb (by simp [upS_, isSmallA, isSmallB, h1, h4, h5]; try (simp [withinB] at h1 h4 h5; omega)) (by simp [isSmallS, isSmallA, isSmallB, h1, h4, h5]), rfl⟩
      · rcases Bool.eq_false_or_eq_true (withinB x 224 239) with h5 | h5
        · go_enter Tryd.func34, Tryd.ntmps34
          go_wp2_with (go_at_call 39; refine (within_any _ _ _ _).mono ?_; rintro e w' ⟨rfl, rfl⟩)
          go_ret2
          exact ⟨ret_bb (by simp [upS_, isSmallA, isSmallB, h1, h4, h5]; try (simp [withinB] at h1 h4 h5; omega)) (by simp [isSmallS, isSmallA, isSmallB, h1, h4, h5]), rfl⟩
        · go_enter Tryd.func34, Tryd.ntmps34
          go_wp2_with (go_at_call 39; refine (within_any _ _ _ _).mono ?_; rintro e w' ⟨rfl, rfl⟩)
          go_ret2
          exact ⟨ret_bb (by simp [upS_, isSmallA, isSmallB, h1, h4, h5]; try (simp [withinB] at h1 h4 h5; omega)) (by simp [isSmallS, isSmallA, isSmallB, h1, h4, h5]), rfl⟩
theorem isLet_any (x p : Int) (hp : Pg p) (w : World) (h0 : 0 ≤ x) (h255 : x ≤ 255) : Calls Tryd.prog 29 #[.int .u8 x, .int .i64 p] w fun e w' => e = .returned (.bool (isLetS x p)) ∧ w = w' := by
  rcases Bool.eq_false_or_eq_true (isSmallS x p) with h | h
  · go_enter Tryd.func29, Tryd.ntmps29
    go_wp2_with fail
    refine (cap_any _ _ hp _ h0 h255).mono ?_
    rintro e w' ⟨rfl, rfl⟩
    go_wp2_with fail
    go_ret
    exact ⟨ret_bool (by simp [isLetS, h]), rfl⟩
  · go_enter Tryd.func29, Tryd.ntmps29
    go_wp2_with fail
    refine (cap_any _ _ hp _ h0 h255).mono ?_
    rintro e w' ⟨rfl, rfl⟩
    go_wp2_with fail
    refine (isCap_any _ _ hp _).mono ?_
    rintro e w' ⟨rfl, rfl⟩
    go_wp2_with fail
    go_ret
    exact ⟨ret_bool (by simp [isLetS, h]), rfl⟩
theorem upper_any (x p : Int) (hp : Pg p) (w : World) (h0 : 0 ≤ x) (h255 : x ≤ 255) : Calls Tryd.prog 26 #[.int .u8 x, .int .i64 p] w fun e w' => e = .returned (.int .u8 (upS_ x p)) ∧ w = w' := by
  go_enter Tryd.func26, Tryd.ntmps26
  go_wp2_with fail
  refine (cap_any _ _ hp _ h0 h255).mono ?_
  rintro e w' ⟨rfl, rfl⟩
  go_wp2_with fail
  go_ret
  exact ⟨rfl, rfl⟩
theorem cap_bounds {x p : Int} (h : isCapS x p = true) : x ≤ 222 ∧ (p ≠ 2 ∨ x ≤ 159) := by
  simp [isCapS, withinB] at h
  omega
def plainS (x : Int) : Int :=
  if withinB x 192 197 then 65 else if x == 199 then 67 else if withinB x 200 203 then 69 else if withinB x 204 207 then 73 else if x == 209 then 78 else
  if withinB x 210 214 then 79 else if withinB x 217 220 then 85 else if x == 221 then 89 else x
def weightS (x p c : Int) : Int := if c == 0 || !isLetS x p then x else if p == 1 then plainS (upS_ x p) else upS_ x p
set_option maxRecDepth 100000 in
set_option maxHeartbeats 1000000 in
theorem plain_any (x : Int) (w : World) : Calls Tryd.prog 40 #[.int .u8 x] w fun e w' => e = .returned (.int .u8 (plainS x)) ∧ w = w' := by
  rcases Bool.eq_false_or_eq_true (withinB x 192 197) with a1 | a1
  · go_enter Tryd.func40, Tryd.ntmps40
    go_wp2_with (go_at_call 39; refine (within_any _ _ _ _).mono ?_; rintro e w' ⟨rfl, rfl⟩)
    go_ret
    exact ⟨ret_int (by simp [plainS, a1]), rfl⟩
  · rcases Bool.eq_false_or_eq_true (x == 199) with a2 | a2
    · go_enter Tryd.func40, Tryd.ntmps40
      go_wp2_with (go_at_call 39; refine (within_any _ _ _ _).mono ?_; rintro e w' ⟨rfl, rfl⟩)
      go_ret
      exact ⟨ret_int (by simp [plainS, a1, a2]), rfl⟩
    · rcases Bool.eq_false_or_eq_true (withinB x 200 203) with a3 | a3
      · go_enter Tryd.func40, Tryd.ntmps40
        go_wp2_with (go_at_call 39; refine (within_any _ _ _ _).mono ?_; rintro e w' ⟨rfl, rfl⟩)
        go_ret
        exact ⟨ret_int (by simp [plainS, a1, a2, a3]), rfl⟩
      · rcases Bool.eq_false_or_eq_true (withinB x 204 207) with a4 | a4
        · go_enter Tryd.func40, Tryd.ntmps40
          go_wp2_with (go_at_call 39; refine (within_any _ _ _ _).mono ?_; rintro e w' ⟨rfl, rfl⟩)
          go_ret
          exact ⟨ret_int (by simp [plainS, a1, a2, a3, a4]), rfl⟩
        · rcases Bool.eq_false_or_eq_true (x == 209) with a5 | a5
          · go_enter Tryd.func40, Tryd.ntmps40
            go_wp2_with (go_at_call 39; refine (within_any _ _ _ _).mono ?_; rintro e w' ⟨rfl, rfl⟩)
            go_ret
            exact ⟨ret_int (by simp [plainS, a1, a2, a3, a4, a5]), rfl⟩
          · rcases Bool.eq_false_or_eq_true (withinB x 210 214) with a6 | a6
            · go_enter Tryd.func40, Tryd.ntmps40
              go_wp2_with (go_at_call 39; refine (within_any _ _ _ _).mono ?_; rintro e w' ⟨rfl, rfl⟩)
              go_ret
              exact ⟨ret_int (by simp [plainS, a1, a2, a3, a4, a5, a6]), rfl⟩
            · rcases Bool.eq_false_or_eq_true (withinB x 217 220) with a7 | a7
              · go_enter Tryd.func40, Tryd.ntmps40
                go_wp2_with (go_at_call 39; refine (within_any _ _ _ _).mono ?_; rintro e w' ⟨rfl, rfl⟩)
                go_ret
                exact ⟨ret_int (by simp [plainS, a1, a2, a3, a4, a5, a6, a7]), rfl⟩
              · rcases Bool.eq_false_or_eq_true (x == 221) with a8 | a8
                · go_enter Tryd.func40, Tryd.ntmps40
                  go_wp2_with (go_at_call 39; refine (within_any _ _ _ _).mono ?_; rintro e w' ⟨rfl, rfl⟩)
                  go_ret
                  exact ⟨ret_int (by simp [plainS, a1, a2, a3, a4, a5, a6, a7, a8]), rfl⟩
                · go_enter Tryd.func40, Tryd.ntmps40
                  go_wp2_with (go_at_call 39; refine (within_any _ _ _ _).mono ?_; rintro e w' ⟨rfl, rfl⟩)
                  go_ret
                  exact ⟨ret_int (by simp [plainS, a1, a2, a3, a4, a5, a6, a7, a8]), rfl⟩
theorem upS_rng {x p : Int} (h0 : 0 ≤ x) (h255 : x ≤ 255) : 0 ≤ upS_ x p ∧ upS_ x p ≤ 255 := by
  unfold upS_
  split
  · rename_i h; simp [isSmallA, withinB] at h; omega
  · split
    · rename_i h; simp [isSmallB, withinB] at h; omega
    · omega
theorem lowS_rng {x p : Int} (h0 : 0 ≤ x) (h255 : x ≤ 255) : 0 ≤ lowS x p ∧ lowS x p ≤ 255 := by
  unfold lowS
  split
  · rename_i h
    have := cap_bounds h
    split
    · rename_i h2; simp at h2; omega
    · omega
  · omega
theorem plainS_rng {x : Int} (h0 : 0 ≤ x) (h255 : x ≤ 255) : 0 ≤ plainS x ∧ plainS x ≤ 255 := by
  unfold plainS
  repeat' split
  all_goals omega
theorem weightS_rng {x p c : Int} (h0 : 0 ≤ x) (h255 : x ≤ 255) : 0 ≤ weightS x p c ∧ weightS x p c ≤ 255 := by
  have h := upS_rng (x := x) (p := p) h0 h255
  unfold weightS
  split
  · omega
  · split
    · exact plainS_rng h.1 h.2
    · exact h
set_option maxRecDepth 100000 in
set_option maxHeartbeats 1000000 in
theorem weight_any (x p c : Int) (hp : Pg p) (w : World) (h0 : 0 ≤ x) (h255 : x ≤ 255) : Calls Tryd.prog 35 #[.int .u8 x, .int .i64 p, .int .i64 c] w fun e w' => e = .returned (.int .u8 (weightS x p c)) ∧ w = w' := by
  rcases Bool.eq_false_or_eq_true (c == 0) with hc | hc
  · go_enter Tryd.func35, Tryd.ntmps35
    go_wp2_with fail
    go_ret
    exact ⟨ret_int (by simp [weightS, hc]), rfl⟩
  · rcases Bool.eq_false_or_eq_true (isLetS x p) with hl | hl
    · rcases Bool.eq_false_or_eq_true (p == 1) with h1 | h1
      · go_enter Tryd.func35, Tryd.ntmps35
        go_wp2_with fail
        refine (isLet_any _ _ hp _ h0 h255).mono ?_
        rintro e w' ⟨rfl, rfl⟩
        go_wp2_with fail
        refine (upper_any _ _ hp _ h0 h255).mono ?_
        rintro e w' ⟨rfl, rfl⟩
        go_wp2_with fail
        refine (plain_any _ _).mono ?_
        rintro e w' ⟨rfl, rfl⟩
        go_wp2_with fail
        go_ret
        exact ⟨ret_int (by simp [weightS, hc, hl, h1]), rfl⟩
      · go_enter Tryd.func35, Tryd.ntmps35
        go_wp2_with fail
        refine (isLet_any _ _ hp _ h0 h255).mono ?_
        rintro e w' ⟨rfl, rfl⟩
        go_wp2_with fail
        refine (upper_any _ _ hp _ h0 h255).mono ?_
        rintro e w' ⟨rfl, rfl⟩
        go_wp2_with fail
        go_ret
        exact ⟨ret_int (by simp [weightS, hc, hl, h1]), rfl⟩
    · go_enter Tryd.func35, Tryd.ntmps35
      go_wp2_with fail
      refine (isLet_any _ _ hp _ h0 h255).mono ?_
      rintro e w' ⟨rfl, rfl⟩
      go_wp2_with fail
      go_ret
      exact ⟨ret_int (by simp [weightS, hl]), rfl⟩

/-! ### Slices of strings, of bytes -/
def strs (l : List ByteArray) : List Value := l.map Value.string
def RdS (w : World) (A : Option Addr) (n c : Nat) (l : List ByteArray) : Prop := Rd w 1 A n c (strs l)
def sth (l : List ByteArray) (k : Nat) : ByteArray := l.getD k ByteArray.empty
section
variable {w w' : World} {n c : Nat} {A : Option Addr} {l : List ByteArray}
theorem RdS.len (h : RdS w A n c l) : l.length = n := by have := h.1; simpa [strs] using this
theorem RdS.max (h : RdS w A n c l) : n ≤ 9223372036854775807 ∧ n ≤ c ∧ c ≤ 9223372036854775807 := Rd.max h
theorem RdS.at_ (h : RdS w A n c l) {k : Nat} (hk : k < n) : ∃ ad, A = some ad ∧ w.cell? (ad.add k) = some (.string (sth l k)) := by
  obtain ⟨ad, hA, hc⟩ := h.2.2.2 (by omega)
  have hl := h.len
  exact ⟨ad, hA, hc k _ (by simp [strs, sth, List.getD, hl, hk])⟩
theorem RdS.ext (h : RdS w A n c l) (hb : Ext w w') : RdS w' A n c l := Rd.ext h hb
end
theorem Rd.new_ (w : World) (cs : List Value) (t : TypeId) (n : Nat) (hn : cs.length = n) (hm : n ≤ maxLen) : Rd (w.alloc (.cells cs.toArray t)) 1 (some ⟨w.heap.size, 0, none⟩) n n cs :=
  ⟨by omega, Nat.le_refl _, hm, fun _ => ⟨_, rfl, World.news_of_block (cs := cs.toArray) (heap_alloc_new w _)⟩⟩
theorem RdS.new1 (w : World) (s : ByteArray) (t : TypeId) : RdS (w.alloc (.cells #[.string s] t)) (some ⟨w.heap.size, 0, none⟩) 1 1 [s] := Rd.new_ w [.string s] t 1 rfl (by decide)
theorem RdS.new2 (w : World) (s u : ByteArray) (t : TypeId) : RdS (w.alloc (.cells #[.string s, .string u] t)) (some ⟨w.heap.size, 0, none⟩) 2 2 [s, u] := Rd.new_ w [.string s, .string u] t 2 rfl (by decide)
/-- One of the first k texts is too long. -/
def longTo (l : List ByteArray) (k : Nat) : Bool := (l.take k).any fun s => decide (2048 < s.size)
theorem longTo_succ (l : List ByteArray) (k : Nat) (hk : k < l.length) : longTo l (k + 1) = (longTo l k || decide (2048 < (sth l k).size)) := by
  unfold longTo
  rw [List.take_succ_eq_append_getElem hk, List.any_append, show sth l k = l[k] by simp [sth, List.getD, hk]]
  simp only [List.any_cons, List.any_nil, Bool.or_false]
theorem long_of (l : List ByteArray) (k : Nat) (hk : k < l.length) (h : 2048 < (sth l k).size) : longTo l l.length = true := by
  unfold longTo
  rw [List.take_length, List.any_eq_true]
  exact ⟨sth l k, by simp [sth, List.getD, hk], by simpa using h⟩
def pgB (p : Int) : Bool := decide (p < 0) || decide (2 < p)
def askE (p : Int) (l : List ByteArray) : Int := if longTo l l.length then 3 else if pgB p then 1 else 0

set_option maxRecDepth 100000 in
set_option maxHeartbeats 1000000 in
theorem asked_any (p : Int) (A : Option Addr) (n c : Nat) (l : List ByteArray) (w : World) (hs : RdS w A n c l) :
    Calls Tryd.prog 21 #[.int .i64 p, .slice A n c] w fun e w' => e = .returned (.int .i64 (askE p l)) ∧ w = w' := by
  have Hl := hid hs.len
  have hm := hs.max
  go_enter Tryd.func21, Tryd.ntmps21
  go_wp2_with fail
  go_loopw [9] (fun i wr => (∃ k : Nat, k ≤ n ∧ i = .int .i64 k ∧ Hid (longTo l k = false)) ∧ wr = w) (fun i _ => n - (intOf i).toNat)
  case atStart => exact ⟨⟨0, by omega, rfl, (rfl : longTo l 0 = false)⟩, rfl⟩
  case round =>
    obtain ⟨⟨k, hk, rfl, hno⟩, rfl⟩ := hrel
    by_cases hlt : k < n
    · obtain ⟨ad, rfl, hc⟩ := hs.at_ hlt
      have hlt' : k < l.length := by rw [Hl.out]; exact hlt
      by_cases hbig : 2048 < (sth l k).size
      · have Fin : Hid (askE p l = 3) := by unfold Hid askE; rw [long_of l k hlt' hbig]; rfl
        have e1 : decide ((2048 : Int) < ((sth l k).size : Int)) = true := by simp; omega
        clear hlt' hbig
        go_wp2
        go_ret
        exact ⟨ret_int Fin.out.symm, rfl⟩
      · have e1 : decide ((2048 : Int) < ((sth l k).size : Int)) = false := by simp; omega
        have hn2 : Hid (longTo l (k + 1) = false) := by unfold Hid; rw [longTo_succ l k hlt', hno.out]; simp; omega
        clear hlt' hbig
        go_wp2
        go_roundw
        case rel => exact ⟨⟨k + 1, by omega, by go_num, hn2⟩, by trivial⟩
        case measure => simp [intOf]; omega
    · have hno' : Hid (longTo l l.length = false) := by
        have e : k = l.length := by rw [Hl.out]; omega
        rw [← e]; exact hno
      by_cases h1 : p < 0
      · have e1 : decide (p < 0) = true := by simpa using h1
        have Fin : Hid (askE p l = 1) := by unfold Hid askE pgB; rw [hno'.out, e1]; rfl
        clear h1
        go_wp2
        go_ret
        exact ⟨ret_int Fin.out.symm, rfl⟩
      · have e1 : decide (p < 0) = false := by simpa using h1
        by_cases h2 : 2 < p
        · have e2 : decide (2 < p) = true := by simpa using h2
          have Fin : Hid (askE p l = 1) := by unfold Hid askE pgB; rw [hno'.out, e1, e2]; rfl
          clear h1 h2
          go_wp2
          go_ret
          exact ⟨ret_int Fin.out.symm, rfl⟩
        · have e2 : decide (2 < p) = false := by simpa using h2
          have Fin : Hid (askE p l = 0) := by unfold Hid askE pgB; rw [hno'.out, e1, e2]; rfl
          clear h1 h2
          go_wp2
          go_ret
          exact ⟨ret_int Fin.out.symm, rfl⟩

def byt (b : UInt8) : Value := .int .u8 (b.toNat : Int)
def bytesC (l : List UInt8) : List Value := l.map byt
def RdB (w : World) (A : Option Addr) (n c : Nat) (l : List UInt8) : Prop := Rd w 1 A n c (bytesC l)
theorem RdB.len {w : World} {A : Option Addr} {n c : Nat} {l : List UInt8} (h : RdB w A n c l) : l.length = n := by have := h.1; simpa [bytesC] using this
theorem RdB.ext {w w' : World} {A : Option Addr} {n c : Nat} {l : List UInt8} (h : RdB w A n c l) (hb : Ext w w') : RdB w' A n c l := Rd.ext h hb
def bOf (x : Int) : UInt8 := UInt8.ofNat x.toNat
theorem bOf_val (x : Int) (h0 : 0 ≤ x) (h1 : x ≤ 255) : ((bOf x).toNat : Int) = x := by
  unfold bOf
  rw [UInt8.toNat_ofNat']
  omega
def bth (l : List UInt8) (k : Nat) : Int := ((l.getD k 0).toNat : Int)
theorem bth_in (l : List UInt8) (k : Nat) : 0 ≤ bth l k ∧ bth l k ≤ 255 := by unfold bth; have := (l.getD k 0).toNat_lt; omega
/-- Bytes as a string (closed to simp). -/
def strB (l : List UInt8) : ByteArray := ⟨l.toArray⟩
theorem strB_toList (l : List UInt8) : (strB l).toList = l := by rw [ByteArray.toList_eq]; rfl
/-- Block g holds the bytes l, and they may be written. -/
def Bk (w : World) (g n : Nat) (l : List UInt8) : Prop := l.length = n ∧ ∀ j, j < n → w.cell? ⟨g, j, none⟩ = some (.int .u8 (bth l j)) ∧ w.frozen? ⟨g, j, none⟩ = false
theorem Bk.ext {w w' : World} {g n : Nat} {l : List UInt8} (h : Bk w g n l) (hb : Ext w w') : Bk w' g n l := ⟨h.1, fun j hj => ⟨hb.cell (h.2 j hj).1, by rw [hb.frozen (World.block_lt_of_cell? w _ (h.2 j hj).1)]; exact (h.2 j hj).2⟩⟩
theorem Bk.set {w : World} {g n : Nat} {l : List UInt8} (h : Bk w g n l) {k : Nat} (hk : k < n) (x : Int) (h0 : 0 ≤ x) (h1 : x ≤ 255) : Bk (w.setCell ⟨g, k, none⟩ (.int .u8 x)) g n (l.set k (bOf x)) := by
  refine ⟨by rw [List.length_set]; exact h.1, fun j hj => ⟨?_, by rw [World.frozen?_setCell]; exact (h.2 j hj).2⟩⟩
  have hl := h.1
  by_cases e : j = k
  · subst e
    rw [World.cell?_setCell_same _ _ _ (h.2 j hj).1]
    simp [bth, List.getD, hl, hj, bOf_val x h0 h1]
  · rw [World.cell?_setCell_other _ _ _ _ (by intro e'; injection e' with _ e' _; exact e e'.symm), (h.2 j hj).1]
    simp [bth, List.getD, List.getElem?_set, Ne.symm e]
theorem Bk.rd {w : World} {g n c : Nat} {l : List UInt8} (h : Bk w g n l) (hc : n ≤ c) (hm : c ≤ maxLen) : RdB w (some ⟨g, 0, none⟩) n c l := by
  refine ⟨by simp [bytesC]; exact h.1, hc, hm, fun _ => ⟨_, rfl, fun j u hu => ?_⟩⟩
  have hj : j < n := by have := (List.getElem?_eq_some_iff.1 hu).1; simp [bytesC] at this; have := h.1; omega
  have hadd : (⟨g, 0, none⟩ : Addr).add j = ⟨g, j, none⟩ := by unfold Addr.add; split <;> simp_all
  have hl := h.1
  rw [hadd, (h.2 j hj).1, ← hu]
  simp [bytesC, byt, bth, List.getD, hl, hj]
def capB (w : World) (s : ByteArray) : Nat := grownCap w s.size 0 5
def newB (w : World) (s : ByteArray) : World := w.drew.alloc (.cells (bytesRow s (capB w s)) 5 ((bytesRow s (capB w s)).size, (bytesRow s (capB w s)).size + 1))
theorem conv_new (w : World) (s : ByteArray) : (convert 9 36 (.string s)).run Tryd.prog w = .ok (.slice (some ⟨w.heap.size, 0, none⟩) s.size (capB w s)) (newB w s) :=
  run_bytes_of_string w 9 36 5 s Tryd.underlying9 Tryd.underlying36 Tryd.underlying5
theorem newB_ext (w : World) (s : ByteArray) : Ext w (newB w s) := Ext.alloc_right ((Ext.refl w).drew_right) _
theorem capB_in (w : World) (s : ByteArray) (h : s.size ≤ 1000000) : s.size ≤ capB w s ∧ capB w s ≤ maxLen := ⟨grownCap_ge _ _ _ _, grownCap_le_maxLen _ _ _ _ (by unfold maxLen; omega)⟩
theorem newB_bk (w : World) (s : ByteArray) : Bk (newB w s) w.heap.size s.size s.toList := by
  have hb : (newB w s).heap[w.heap.size]? = some (.cells (bytesRow s (capB w s)) 5 ((bytesRow s (capB w s)).size, (bytesRow s (capB w s)).size + 1)) := heap_alloc_new w.drew _
  have hc := grownCap_ge w s.size 0 5
  have hsz : s.toList.length = s.size := by rw [ByteArray.toList_eq]; rfl
  have hrow : s.size ≤ (bytesRow s (capB w s)).size := by unfold bytesRow; rw [Array.size_append, Array.size_map]; exact Nat.le_add_right _ _
  refine ⟨hsz, fun j hj => ⟨?_, ?_⟩⟩
  · rw [cell_of_row _ w.heap.size j _ 5 _ hb]
    have hj' : j < s.data.size := hj
    unfold bytesRow
    rw [Array.getElem?_append_left (by rw [Array.size_map]; exact hj'), Array.getElem?_map]
    simp [bth, List.getD, ByteArray.toList_eq]
    have hd : s.data[j]? = some s.data[j] := by simp [hj']
    exact ⟨s.data[j], hd, by rw [hd]; rfl⟩
  · unfold World.frozen?
    rw [hb]
    simp
    intro h
    omega
attribute [local go_sem] conv_new
theorem conv_RdB {w : World} {A : Option Addr} {n c : Nat} {l : List UInt8} (h : RdB w A n c l) : (convert 36 9 (.slice A n c)).run Tryd.prog w = .ok (.string (strB l)) w := by
  have hl := h.len
  rcases A with _ | ad
  · have h0 : n = 0 := by
      rcases Nat.eq_zero_or_pos n with h0 | h0
      · exact h0
      · obtain ⟨ad, e, _⟩ := h.2.2.2 h0
        cases e
    subst h0
    have : l = [] := List.eq_nil_of_length_eq_zero hl
    subst this
    exact run_convert_bytes_nil w 36 5 Tryd.underlying36 Tryd.underlying5 0 c 9 Tryd.underlying9
  · subst hl
    exact run_convert_bytes_back w 36 9 5 ad c l Tryd.underlying36 Tryd.underlying5 Tryd.underlying9 (fun j hj => by
      obtain ⟨ad', e, hc⟩ := h.2.2.2 (by omega)
      injection e with e
      subst e
      refine hc j _ ?_
      simp [bytesC, byt, hj])
/-- The first k bytes turned by f. -/
def mpTo (f : Int → Int) (l : List UInt8) (k : Nat) : List UInt8 := (l.take k).map (fun b => bOf (f (b.toNat : Int))) ++ l.drop k
theorem mpTo_at (f : Int → Int) (l : List UInt8) (k : Nat) (hk : k < l.length) : bth (mpTo f l k) k = bth l k := by
  simp [mpTo, bth, List.getD, List.getElem?_append_right, Nat.min_eq_left (Nat.le_of_lt hk)]
theorem mpTo_succ (f : Int → Int) (l : List UInt8) (k : Nat) (hk : k < l.length) : (mpTo f l k).set k (bOf (f (bth l k))) = mpTo f l (k + 1) := by
  unfold mpTo
  rw [List.set_append_right _ _ (by simp; omega), List.take_succ_eq_append_getElem hk, List.map_append]
  simp only [List.length_map, List.length_take, Nat.min_eq_left (Nat.le_of_lt hk), Nat.sub_self]
  rw [List.drop_eq_getElem_cons hk, List.set_cons_zero, List.append_assoc]
  simp [bth, List.getD, hk]
def mapS (f : Int → Int) (s : ByteArray) : ByteArray := strB (s.toList.map fun b => bOf (f (b.toNat : Int)))
theorem mpTo_all (f : Int → Int) (l : List UInt8) : mpTo f l l.length = l.map fun b => bOf (f (b.toNat : Int)) := by simp [mpTo]

theorem plain_rng {x : Int} (h0 : 0 ≤ x) (h255 : x ≤ 255) : 0 ≤ plainS x ∧ plainS x ≤ 255 := by
  unfold plainS
  repeat' split
  all_goals omega
theorem weight_rng {x p c : Int} (hp : Pg p) (h0 : 0 ≤ x) (h255 : x ≤ 255) : 0 ≤ weightS x p c ∧ weightS x p c ≤ 255 := by
  have hu := upS_rng (p := p) h0 h255
  have hq := plain_rng hu.1 hu.2
  unfold weightS
  repeat' split
  all_goals omega

set_option maxRecDepth 100000 in
set_option maxHeartbeats 1000000 in
theorem weights_any (s : ByteArray) (p c : Int) (hp : Pg p) (hsz : s.size ≤ 1000000) (w : World) :
    Calls Tryd.prog 28 #[.string s, .int .i64 p, .int .i64 c] w fun e w' => e = .returned (.string (mapS (fun x => weightS x p c) s)) ∧ Ext w w' := by
  have hcap := capB_in w s hsz
  have hB := hid (newB_bk w s)
  have hE := hid (newB_ext w s)
  have hlen : Hid (s.toList.length = s.size) := hB.out.1
  have hg : w.heap.size < (newB w s).heap.size := by simp [newB]
  have hfin := hid (mpTo_all (fun x => weightS x p c) s.toList)
  go_enter Tryd.func28, Tryd.ntmps28
  go_wp2_with fail
  go_loopw [14] (fun i wr => ∃ k : Nat, k ≤ s.size ∧ i = .int .i64 k ∧ Hid (Bk wr w.heap.size s.size (mpTo (fun x => weightS x p c) s.toList k)) ∧ Hid (Ext w wr)) (fun i _ => s.size - (intOf i).toNat)
  case atStart => exact ⟨0, by omega, rfl, hB, hE⟩
  case round =>
    obtain ⟨k, hk, rfl, hb, hx⟩ := hrel
    by_cases hlt : k < s.size
    · have hlt' : k < s.toList.length := by rw [hlen.out]; exact hlt
      have hc := (hb.out.2 k hlt).1
      have hfree := (hb.out.2 k hlt).2
      rw [mpTo_at _ _ k hlt'] at hc
      have hr := bth_in s.toList k
      have hst := hid (mpTo_succ (fun x => weightS x p c) s.toList k hlt')
      clear hlt'
      go_wp2_with fail
      refine (weight_any _ _ _ hp _ hr.1 hr.2).mono ?_
      rintro e w' ⟨rfl, rfl⟩
      have hw := weight_rng (c := c) hp hr.1 hr.2
      have hb2 := hid (hb.out.set hlt (weightS (bth s.toList k) p c) hw.1 hw.2)
      have hx2 := hid (hx.out.set (p := ⟨w.heap.size, k, none⟩) (Nat.le_refl _) (.int .u8 (weightS (bth s.toList k) p c)))
      go_wp2
      go_roundw
      case rel => exact ⟨k + 1, by omega, by go_num, by rw [← hst.out]; exact hb2, hx2⟩
      case measure => simp [intOf]; omega
    · obtain rfl : k = s.size := by omega
      have hrd := hb.out.rd hcap.1 hcap.2
      have hcv := conv_RdB hrd
      rw [← hlen.out, hfin.out] at hcv
      rw [hlen.out] at hcv
      have hmap : strB (s.toList.map fun b => bOf (weightS (b.toNat : Int) p c)) = mapS (fun x => weightS x p c) s := rfl
      rw [hmap] at hcv
      clear hmap hrd
      go_wp2
      go_ret
      exact ⟨rfl, hx.out⟩
attribute [local go_sem] conv_new

def GiveSN (s : ByteArray) (x : Int) (w : World) (e : Ending) (w' : World) : Prop := e = .returned (.tuple #[.string s, .int .i64 x]) ∧ Ext w w'
theorem ask_ok {p : Int} {s : ByteArray} (h : askE p [s] = 0) : s.size ≤ 2048 ∧ Pg p := by
  unfold askE at h
  split at h
  · cases h
  · rename_i h1
    split at h
    · cases h
    · rename_i h2
      refine ⟨?_, ?_⟩
      · have : ¬ 2048 < s.size := by
          intro h3
          exact h1 (by simp [longTo, h3])
        omega
      · unfold Pg
        simp [pgB] at h2
        omega
def okA (p : Int) (s : ByteArray) (t : ByteArray) : ByteArray := if askE p [s] = 0 then t else ByteArray.empty
theorem enterUpper (args : Array Value) (w : World) : (callFunc 26 args).run Tryd.prog w = .ok (.enter 26 args) w := by kernel_rfl
set_option maxRecDepth 100000 in
set_option maxHeartbeats 1000000 in
theorem mapped_any (fn : Nat) (f : Int → Int → Int) (hcf : ∀ args w, (callFunc fn args).run Tryd.prog w = .ok (.enter fn args) w)
    (hf : ∀ x p w, Pg p → 0 ≤ x → x ≤ 255 → Calls Tryd.prog fn #[.int .u8 x, .int .i64 p] w fun e w' => e = .returned (.int .u8 (f x p)) ∧ w = w')
    (hr0 : ∀ x p, Pg p → 0 ≤ x → x ≤ 255 → 0 ≤ f x p ∧ f x p ≤ 255) (s : ByteArray) (p : Int) (w : World) :
    Calls Tryd.prog 25 #[.string s, .int .i64 p, .func (.func fn) #[] #[]] w (GiveSN (okA p s (mapS (fun x => f x p) s)) (askE p [s]) w) := by
  have HF := hid hf
  have HR := hid hr0
  clear hf hr0
  by_cases h : askE p [s] = 0
  · have e1 : (askE p [s] != 0) = false := by simp [h]
    have Fin : Hid (okA p s (mapS (fun x => f x p) s) = mapS (fun x => f x p) s) := by unfold Hid okA; rw [if_pos h]
    have Fin2 := hid h
    have ho := ask_ok h
    have hp := hid ho.2
    have hsz : s.size ≤ 1000000 := by omega
    have hlen : Hid (s.toList.length = s.size) := by unfold Hid; rw [ByteArray.toList_eq]; rfl
    have hfin := hid (mpTo_all (fun x => f x p) s.toList)
    clear ho h
    go_enter Tryd.func25, Tryd.ntmps25
    go_wp2_with fail
    refine (asked_any p _ _ _ [s] _ (RdS.new1 w s _)).mono ?_
    rintro e w1 ⟨rfl, rfl⟩
    have hx1 := hid ((Ext.refl w).alloc_right (.cells #[.string s] 9))
    have hs1 := hx1.out.size
    generalize hw1 : w.alloc (.cells #[.string s] 9) = w1 at *
    clear hw1
    have hcap := capB_in w1 s hsz
    have hB := hid (newB_bk w1 s)
    have hE := hid (newB_ext w1 s)
    have hg : w1.heap.size < (newB w1 s).heap.size := by simp [newB]
    go_wp2_with fail
    go_loopw [23] (fun i wr => ∃ k : Nat, k ≤ s.size ∧ i = .int .i64 k ∧ Hid (Bk wr w1.heap.size s.size (mpTo (fun x => f x p) s.toList k)) ∧ Hid (Ext w1 wr)) (fun i _ => s.size - (intOf i).toNat)
    case atStart => exact ⟨0, by omega, rfl, hB, hE⟩
    case round =>
      obtain ⟨k, hk, rfl, hb, hx⟩ := hrel
      by_cases hlt : k < s.size
      · have hlt' : k < s.toList.length := by rw [hlen.out]; exact hlt
        have hc := (hb.out.2 k hlt).1
        have hfree := (hb.out.2 k hlt).2
        rw [mpTo_at _ _ k hlt'] at hc
        have hr := bth_in s.toList k
        have hst := hid (mpTo_succ (fun x => f x p) s.toList k hlt')
        clear hlt'
        go_wp2_with fail
        refine (HF.out _ _ _ hp.out hr.1 hr.2).mono ?_
        rintro e w' ⟨rfl, rfl⟩
        have hw := HR.out (bth s.toList k) p hp.out hr.1 hr.2
        have hb2 := hid (hb.out.set hlt (f (bth s.toList k) p) hw.1 hw.2)
        have hx2 := hid (hx.out.set (p := ⟨w1.heap.size, k, none⟩) (Nat.le_refl _) (.int .u8 (f (bth s.toList k) p)))
        go_wp2
        go_roundw
        case rel => exact ⟨k + 1, by omega, by go_num, by rw [← hst.out]; exact hb2, hx2⟩
        case measure => simp [intOf]; omega
      · obtain rfl : k = s.size := by omega
        have hrd := hb.out.rd hcap.1 hcap.2
        have hcv := conv_RdB hrd
        rw [← hlen.out, hfin.out] at hcv
        rw [hlen.out] at hcv
        have hmap : strB (s.toList.map fun b => bOf (f (b.toNat : Int) p)) = mapS (fun x => f x p) s := rfl
        rw [hmap] at hcv
        clear hmap hrd
        go_wp2
        go_ret2
        exact ⟨by rw [Fin.out, Fin2.out]; rfl, hx1.out.trans hx.out⟩
  · have e1 : (askE p [s] != 0) = true := by simp [h]
    have Fin : Hid (okA p s (mapS (fun x => f x p) s) = ByteArray.empty) := by unfold Hid okA; rw [if_neg h]
    clear h
    go_enter Tryd.func25, Tryd.ntmps25
    go_wp2_with fail
    refine (asked_any p _ _ _ [s] _ (RdS.new1 w s _)).mono ?_
    rintro e w1 ⟨rfl, rfl⟩
    go_wp2
    go_ret2
    exact ⟨by rw [Fin.out]; rfl, (Ext.refl w).alloc_right _⟩
theorem Upper_any (s : ByteArray) (p : Int) (w : World) : Calls Tryd.prog 13 #[.string s, .int .i64 p] w (GiveSN (okA p s (mapS (fun x => upS_ x p) s)) (askE p [s]) w) := by
  go_enter Tryd.func13, Tryd.ntmps13
  go_wp2_with fail
  refine (mapped_any 26 upS_ enterUpper (fun x p w hp h0 h1 => upper_any x p hp w h0 h1) (fun x p hp h0 h1 => upS_rng h0 h1) s p _).mono ?_
  rintro e w1 ⟨rfl, hx⟩
  go_wp2
  go_ret2
  exact ⟨rfl, hx⟩

def digS (x : Int) : Int :=
  if x == 66 || x == 70 || x == 80 || x == 86 then 1 else if x == 67 || x == 71 || x == 74 || x == 75 || x == 81 || x == 83 || x == 88 || x == 90 then 2
  else if x == 68 || x == 84 then 3 else if x == 76 then 4 else if x == 77 || x == 78 then 5 else if x == 82 then 6 else if x == 72 || x == 87 then -1 else 0
set_option maxRecDepth 100000 in
set_option maxHeartbeats 2000000 in
theorem digitOf_any (x : Int) (w : World) : Calls Tryd.prog 30 #[.int .u8 x] w fun e w' => e = .returned (.int .i64 (digS x)) ∧ w = w' := by
  go_enter Tryd.func30, Tryd.ntmps30
  go_wp2
  all_goals go_ret
  all_goals exact ⟨ret_int (by simp_all [digS]), rfl⟩
def askC (p c : Int) (l : List ByteArray) : Int := if askE p l = 0 then (if c < 0 ∨ 1 < c then 1 else 0) else askE p l
set_option maxRecDepth 100000 in
set_option maxHeartbeats 2000000 in
theorem askedColl_any (p c : Int) (A : Option Addr) (n cp : Nat) (l : List ByteArray) (w : World) (hs : RdS w A n cp l) :
    Calls Tryd.prog 27 #[.int .i64 p, .int .i64 c, .slice A n cp] w fun e w' => e = .returned (.int .i64 (askC p c l)) ∧ w = w' := by
  by_cases h : askE p l = 0
  · have e1 : (askE p l != 0) = false := by simp [h]
    by_cases h1 : c < 0
    · have d1 : decide (c < 0) = true := by simpa using h1
      have Fin : Hid (askC p c l = 1) := by unfold Hid askC; rw [if_pos h, if_pos (Or.inl h1)]
      clear h h1
      go_enter Tryd.func27, Tryd.ntmps27
      go_wp2_with fail
      refine (asked_any p _ _ _ _ _ hs).mono ?_
      rintro e w1 ⟨rfl, rfl⟩
      go_wp2
      go_ret
      exact ⟨ret_int Fin.out.symm, rfl⟩
    · have d1 : decide (c < 0) = false := by simpa using h1
      by_cases h2 : 1 < c
      · have d2 : decide (1 < c) = true := by simpa using h2
        have Fin : Hid (askC p c l = 1) := by unfold Hid askC; rw [if_pos h, if_pos (Or.inr h2)]
        clear h h1 h2
        go_enter Tryd.func27, Tryd.ntmps27
        go_wp2_with fail
        refine (asked_any p _ _ _ _ _ hs).mono ?_
        rintro e w1 ⟨rfl, rfl⟩
        go_wp2
        go_ret
        exact ⟨ret_int Fin.out.symm, rfl⟩
      · have d2 : decide (1 < c) = false := by simpa using h2
        have Fin : Hid (askC p c l = 0) := by unfold Hid askC; rw [if_pos h, if_neg (by omega)]
        clear h h1 h2
        go_enter Tryd.func27, Tryd.ntmps27
        go_wp2_with fail
        refine (asked_any p _ _ _ _ _ hs).mono ?_
        rintro e w1 ⟨rfl, rfl⟩
        go_wp2
        go_ret
        exact ⟨ret_int Fin.out.symm, rfl⟩
  · have e1 : (askE p l != 0) = true := by simp [h]
    have Fin : Hid (askC p c l = askE p l) := by unfold Hid askC; rw [if_neg h]
    clear h
    go_enter Tryd.func27, Tryd.ntmps27
    go_wp2_with fail
    refine (asked_any p _ _ _ _ _ hs).mono ?_
    rintro e w1 ⟨rfl, rfl⟩
    go_wp2
    go_ret
    exact ⟨ret_int Fin.out.symm, rfl⟩
theorem askC_ok {p c : Int} {l : List ByteArray} (h : askC p c l = 0) : askE p l = 0 ∧ 0 ≤ c ∧ c ≤ 1 := by
  unfold askC at h
  split at h
  · rename_i h1
    split at h
    · cases h
    · exact ⟨h1, by omega, by omega⟩
  · rename_i h1; exact absurd h h1
def okC (p c : Int) (l : List ByteArray) (t : ByteArray) : ByteArray := if askC p c l = 0 then t else ByteArray.empty
set_option maxRecDepth 100000 in
set_option maxHeartbeats 2000000 in
theorem Weights_any (s : ByteArray) (p c : Int) (w : World) : Calls Tryd.prog 14 #[.string s, .int .i64 p, .int .i64 c] w (GiveSN (okC p c [s] (mapS (fun x => weightS x p c) s)) (askC p c [s]) w) := by
  by_cases h : askC p c [s] = 0
  · have e1 : (askC p c [s] != 0) = false := by simp [h]
    have Fin : Hid (okC p c [s] (mapS (fun x => weightS x p c) s) = mapS (fun x => weightS x p c) s) := by unfold Hid okC; rw [if_pos h]
    have Fin2 := hid h
    have ho := ask_ok (askC_ok h).1
    clear h
    go_enter Tryd.func14, Tryd.ntmps14
    go_wp2_with fail
    refine (askedColl_any p c _ _ _ [s] _ (RdS.new1 w s _)).mono ?_
    rintro e w1 ⟨rfl, rfl⟩
    go_wp2_with fail
    refine (weights_any s p c ho.2 (by omega) _).mono ?_
    rintro e w2 ⟨rfl, hx⟩
    go_wp2
    go_ret2
    exact ⟨by rw [Fin.out, Fin2.out]; rfl, Ext.trans ((Ext.refl w).alloc_right _) hx⟩
  · have e1 : (askC p c [s] != 0) = true := by simp [h]
    have Fin : Hid (okC p c [s] (mapS (fun x => weightS x p c) s) = ByteArray.empty) := by unfold Hid okC; rw [if_neg h]
    clear h
    go_enter Tryd.func14, Tryd.ntmps14
    go_wp2_with fail
    refine (askedColl_any p c _ _ _ [s] _ (RdS.new1 w s _)).mono ?_
    rintro e w1 ⟨rfl, rfl⟩
    go_wp2
    go_ret2
    exact ⟨by rw [Fin.out]; rfl, (Ext.refl w).alloc_right _⟩
attribute [local go_sem] conv_new

theorem u8_in (x : Int) (h0 : 0 ≤ x) (h1 : x ≤ 255) : IntKind.u8.wrap x = x := by simp [IntKind.wrap, IntKind.bits, IntKind.signed]; omega
theorem byt_of (x : Int) (h0 : 0 ≤ x) (h1 : x ≤ 255) : Value.int .u8 x = byt (bOf x) := by unfold byt; rw [bOf_val x h0 h1]
theorem bytesC_snoc (l : List UInt8) (x : Int) (h0 : 0 ≤ x) (h1 : x ≤ 255) : bytesC (l ++ [bOf x]) = bytesC l ++ [.int .u8 x] := by rw [byt_of x h0 h1]; simp [bytesC]
theorem digS_in (x : Int) : -1 ≤ digS x ∧ digS x ≤ 6 := by
  unfold digS
  repeat' split
  all_goals omega
/-- One byte more: the code so far, its last digit. -/
def sStep (c : List UInt8) (last x : Int) : List UInt8 × Int :=
  if isLetS x 0 = false then (c, last) else
  if c.length = 0 then ([bOf (upS_ x 0)], if digS (upS_ x 0) < 0 then 0 else digS (upS_ x 0)) else
  if digS (upS_ x 0) < 0 then (c, last) else
  (if 0 < digS (upS_ x 0) ∧ digS (upS_ x 0) ≠ last ∧ c.length < 4 then c ++ [bOf (48 + digS (upS_ x 0))] else c, digS (upS_ x 0))
def sTo (l : List UInt8) : Nat → List UInt8 × Int
  | 0 => ([], 0)
  | k + 1 => sStep (sTo l k).1 (sTo l k).2 (bth l k)
theorem sTo_succ (l : List UInt8) (k : Nat) : sTo l (k + 1) = sStep (sTo l k).1 (sTo l k).2 (bth l k) := rfl
def padS (c : List UInt8) : List UInt8 := if c.length = 0 then c else c ++ List.replicate (4 - c.length) (bOf 48)
def soundB (s : ByteArray) : ByteArray := strB (padS (sTo s.toList s.size).1)
theorem pad_more (c : List UInt8) (h0 : 0 < c.length) (h4 : c.length < 4) : padS (c ++ [bOf 48]) = padS c := by
  unfold padS
  rw [if_neg (by simp), if_neg (by omega), List.append_assoc]
  congr 1
  rw [show 4 - c.length = (4 - (c ++ [bOf 48]).length) + 1 by simp; omega, List.replicate_succ]
  rfl
theorem pad_done (c : List UInt8) (h : ¬ (0 < c.length ∧ c.length < 4)) : padS c = c := by
  unfold padS
  split
  · rfl
  · rw [show 4 - c.length = 0 by omega]; simp

set_option maxRecDepth 100000 in
set_option maxHeartbeats 4000000 in
theorem Sound_any (s : ByteArray) (w : World) : Calls Tryd.prog 15 #[.string s] w (GiveSN (okA 0 s (soundB s)) (askE 0 [s]) w) := by
  by_cases h : askE 0 [s] = 0
  · have e1 : (askE 0 [s] != 0) = false := by simp [h]
    have Fin : Hid (okA 0 s (soundB s) = soundB s) := by unfold Hid okA; rw [if_pos h]
    have Fin2 := hid h
    have ho := ask_ok h
    have hsz : s.size ≤ 2048 := ho.1
    have hlen : Hid (s.toList.length = s.size) := by unfold Hid; rw [ByteArray.toList_eq]; rfl
    have info5 : (Tryd.prog.info? 5).map (fun i => (i.zero, i.size, i.bytes)) = some (some (.int .u8 0), 1, 1) := by kernel_rfl
    obtain ⟨i0, hi, hz0, hz1, hz2⟩ := info_parts info5
    clear info5 ho h
    have hp0 : Pg 0 := Or.inl rfl
    go_enter Tryd.func15, Tryd.ntmps15
    go_wp2_with fail
    refine (asked_any 0 _ _ _ [s] _ (RdS.new1 w s _)).mono ?_
    rintro e w1 ⟨rfl, rfl⟩
    have hx1 := hid ((Ext.refl w).alloc_right (.cells #[.string s] 9))
    have hs1 := hx1.out.size
    generalize hw1 : w.alloc (.cells #[.string s] 9) = w1 at *
    clear hw1
    have hcap := capB_in w1 s (by omega)
    have hB := hid (newB_bk w1 s)
    have hE := hid (newB_ext w1 s)
    have hg : w1.heap.size < (newB w1 s).heap.size := by simp [newB]
    generalize hw2 : newB w1 s = w2 at *
    go_wp2_with fail
    clear hw2
    have hE2 := hid hE.out
    go_loopw [5, 6, 20] (fun v la i wr => ∃ k n : Nat, k ≤ s.size ∧ i = .int .i64 k ∧ n ≤ 4 ∧ la = .int .i64 (sTo s.toList k).2 ∧ wr.ownsRow w2.heap.size 5 1 v n (bytesC (sTo s.toList k).1) ∧ Below w2.heap.size w2 wr) (fun _ _ i _ => s.size - (intOf i).toNat)
    case atStart => exact ⟨0, 0, by omega, rfl, by omega, rfl, World.ownsRow_nil _ _ _ _, Below.refl _ _⟩
    case round =>
      obtain ⟨k, n, hk, rfl, hn4, rfl, hown, hb⟩ := hrel
      have hbs := hb.size
      have hcl : (sTo s.toList k).1.length = n := by have := hown.1; simpa [bytesC] using this
      have hst := sTo_succ s.toList k
      by_cases hlt : k < s.size
      · have hc := ((hB.out.ext (w' := wr) hb).2 k hlt).1
        have hr := bth_in s.toList k
        generalize bth s.toList k = x at *
        generalize hlast : (sTo s.toList k).2 = last at *
        generalize hcode : (sTo s.toList k).1 = code at *
        have hu := upS_rng (p := 0) hr.1 hr.2
        have hd := digS_in (upS_ x 0)
        rcases Bool.eq_false_or_eq_true (isLetS x 0) with hl | hl
        · have hs2 : sTo s.toList (k + 1) = sStep code last x := hst
          obtain ⟨A0, c0, rfl, -⟩ := own_form hown
          clear hst hlast hcode
          rcases Nat.eq_zero_or_pos n with rfl | hn0
          · have hst2 : Hid (sTo s.toList (k + 1) = ([bOf (upS_ x 0)], if digS (upS_ x 0) < 0 then 0 else digS (upS_ x 0))) := by unfold Hid; rw [hs2, sStep, if_neg (by rw [hl]; simp), if_pos hcl]
            have hnil : code = [] := List.eq_nil_of_length_eq_zero hcl
            subst hnil
            have hb1 := hid (bytesC_snoc [] (upS_ x 0) hu.1 hu.2)
            clear hs2
            go_wp2_with fail
            refine (isLet_any _ _ hp0 _ hr.1 hr.2).mono ?_
            rintro e w' ⟨rfl, rfl⟩
            go_wp2_with fail
            refine (upper_any _ _ hp0 _ hr.1 hr.2).mono ?_
            rintro e w' ⟨rfl, rfl⟩
            go_wp2_with fail
            refine (digitOf_any _ _).mono ?_
            rintro e w' ⟨rfl, rfl⟩
            go_wp2_with (at_builtin; refine wpList_push _ rfl _ _ 36 rfl w2.heap.size 5 i0 _ 1 1 Tryd.underlying36 hi hz0 hz1 hz2 rfl (by decide) _ _ _ rfl hown [.int .u8 (upS_ x 0)] rfl rfl (by simp [Value.oneCell']) (by unfold maxLen; omega) (by omega) hbs ?_)
            intro g cap wp ownp grp _
            rw [← hb1.out] at ownp
            have bel := below_push hb hown grp hbs
            clear grp hown hb
            go_wp2_with fail
            go_roundw
            case rel => exact ⟨k + 1, 1, by omega, by go_num, by omega, by rw [hst2.out], by rw [hst2.out]; exact ownp, bel⟩
            case measure => simp [intOf]; omega
          · have d0 : ((n : Int) == 0) = false := by simp; omega
            by_cases hd0 : digS (upS_ x 0) < 0
            · have d1 : decide (digS (upS_ x 0) < 0) = true := by simpa using hd0
              have hst2 : Hid (sTo s.toList (k + 1) = (code, last)) := by unfold Hid; rw [hs2, sStep, if_neg (by rw [hl]; simp), if_neg (by omega), if_pos hd0]
              clear hs2 hd0
              go_wp2_with fail
              refine (isLet_any _ _ hp0 _ hr.1 hr.2).mono ?_
              rintro e w' ⟨rfl, rfl⟩
              go_wp2_with fail
              refine (upper_any _ _ hp0 _ hr.1 hr.2).mono ?_
              rintro e w' ⟨rfl, rfl⟩
              go_wp2_with fail
              refine (digitOf_any _ _).mono ?_
              rintro e w' ⟨rfl, rfl⟩
              go_wp2
              go_roundw
              case rel => exact ⟨k + 1, n, by omega, by go_num, hn4, by rw [hst2.out], by rw [hst2.out]; exact hown, hb⟩
              case measure => simp [intOf]; omega
            · have d1 : decide (digS (upS_ x 0) < 0) = false := by simpa using hd0
              by_cases hd1 : 0 < digS (upS_ x 0) ∧ digS (upS_ x 0) ≠ last ∧ n < 4
              · have d2 : decide (0 < digS (upS_ x 0)) = true := by simpa using hd1.1
                have d3 : (digS (upS_ x 0) != last) = true := by simpa using hd1.2.1
                have d4 : decide ((n : Int) < 4) = true := by simp; omega
                have hst2 : Hid (sTo s.toList (k + 1) = (code ++ [bOf (48 + digS (upS_ x 0))], digS (upS_ x 0))) := by unfold Hid; rw [hs2, sStep, if_neg (by rw [hl]; simp), if_neg (by omega), if_neg hd0, if_pos ⟨hd1.1, hd1.2.1, by omega⟩]
                have hb1 := hid (bytesC_snoc code (48 + digS (upS_ x 0)) (by omega) (by omega))
                have ew := u8_in (48 + digS (upS_ x 0)) (by omega) (by omega)
                have ew1 := IntWalk.i64_in (48 + digS (upS_ x 0)) (by omega)
                have hn3 : n ≤ 3 := by omega
                clear hs2 hd0 hd1
                go_wp2_with fail
                refine (isLet_any _ _ hp0 _ hr.1 hr.2).mono ?_
                rintro e w' ⟨rfl, rfl⟩
                go_wp2_with fail
                refine (upper_any _ _ hp0 _ hr.1 hr.2).mono ?_
                rintro e w' ⟨rfl, rfl⟩
                go_wp2_with fail
                refine (digitOf_any _ _).mono ?_
                rintro e w' ⟨rfl, rfl⟩
                go_wp2_with (at_builtin; refine wpList_push _ rfl _ _ 36 rfl w2.heap.size 5 i0 _ 1 1 Tryd.underlying36 hi hz0 hz1 hz2 rfl (by decide) _ _ _ rfl hown [.int .u8 (48 + digS (upS_ x 0))] rfl rfl (by simp [Value.oneCell']) (by unfold maxLen; omega) (by omega) hbs ?_)
                intro g cap wp ownp grp _
                rw [← hb1.out] at ownp
                have bel := below_push hb hown grp hbs
                clear grp hown hb
                go_wp2_with fail
                go_roundw
                case rel => exact ⟨k + 1, n + 1, by omega, by go_num, by omega, by rw [hst2.out], by rw [hst2.out]; exact ownp, bel⟩
                case measure => simp [intOf]; omega
              · have hst2 : Hid (sTo s.toList (k + 1) = (code, digS (upS_ x 0))) := by unfold Hid; rw [hs2, sStep, if_neg (by rw [hl]; simp), if_neg (by omega), if_neg hd0, if_neg (by rw [hcl]; exact hd1)]
                have hq : (decide (0 < digS (upS_ x 0)) && ((digS (upS_ x 0) != last) && decide ((n : Int) < 4))) = false := by
                  rw [Bool.eq_false_iff]
                  intro hh
                  simp only [Bool.and_eq_true, decide_eq_true_eq, bne_iff_ne] at hh
                  exact hd1 ⟨hh.1, hh.2.1, by omega⟩
                clear hs2 hd0 hd1
                rcases Bool.eq_false_or_eq_true (decide (0 < digS (upS_ x 0))) with d2 | d2 <;> rcases Bool.eq_false_or_eq_true (digS (upS_ x 0) != last) with d3 | d3 <;> rcases Bool.eq_false_or_eq_true (decide ((n : Int) < 4)) with d4 | d4 <;> (first | (exfalso; rw [d2, d3, d4] at hq; cases hq; done) | skip)
                all_goals clear hq
                all_goals go_wp2_with fail
                all_goals refine (isLet_any _ _ hp0 _ hr.1 hr.2).mono ?_
                all_goals rintro e w' ⟨rfl, rfl⟩
                all_goals go_wp2_with fail
                all_goals refine (upper_any _ _ hp0 _ hr.1 hr.2).mono ?_
                all_goals rintro e w' ⟨rfl, rfl⟩
                all_goals go_wp2_with fail
                all_goals refine (digitOf_any _ _).mono ?_
                all_goals rintro e w' ⟨rfl, rfl⟩
                all_goals go_wp2
                all_goals go_roundw
                all_goals first | exact ⟨k + 1, n, by omega, by go_num, hn4, by rw [hst2.out], by rw [hst2.out]; exact hown, hb⟩ | (simp [intOf]; omega)
        · have hst2 : Hid (sTo s.toList (k + 1) = (code, last)) := by unfold Hid; rw [hst, sStep, if_pos hl]
          clear hst hlast hcode
          go_wp2_with fail
          refine (isLet_any _ _ hp0 _ hr.1 hr.2).mono ?_
          rintro e w' ⟨rfl, rfl⟩
          go_wp2
          go_roundw
          case rel => exact ⟨k + 1, n, by omega, by go_num, hn4, by rw [hst2.out], by rw [hst2.out]; exact hown, hb⟩
          case measure => simp [intOf]; omega
      · obtain rfl : k = s.size := by omega
        have Hsb : Hid (soundB s = strB (padS (sTo s.toList s.size).1)) := rfl
        clear hst hB hE hg hcap
        generalize hcode : (sTo s.toList s.size).1 = code at *
        clear hcode
        go_wp2_with fail
        go_loopw [5] (fun v wq => ∃ (m : Nat) (c : List UInt8), m ≤ 4 ∧ Hid (padS c = padS code) ∧ Hid (c.length = m) ∧ wq.ownsRow w2.heap.size 5 1 v m (bytesC c) ∧ Below w2.heap.size w2 wq) (fun v _ => 4 - lenOf v)
        case atStart => exact ⟨n, code, hn4, rfl, hcl, hown, hb⟩
        case round =>
          obtain ⟨m, c, hm4, hpad, hcm, hownc, hbc⟩ := hrel
          have hbsc := hbc.size
          obtain ⟨A0, c0, rfl, hm0⟩ := own_form hownc
          rcases Nat.eq_zero_or_pos m with rfl | hmp
          · have hc2 : Hid (padS c = c) := pad_done c (by have := hcm.out; omega)
            have hcv := conv_RdB (l := c) (Rd.of_own hownc)
            have hout : Hid (strB c = soundB s) := by unfold Hid; rw [Hsb.out, ← hpad.out, hc2.out]
            rw [hout.out] at hcv
            go_wp2
            go_ret2
            exact ⟨by rw [Fin.out, Fin2.out]; rfl, (hx1.out.trans hE2.out).trans hbc⟩
          · have t0 : decide ((0 : Int) < (m : Int)) = true := by simp; omega
            by_cases hm : m < 4
            · have t1 : decide ((m : Int) < 4) = true := by simp; omega
              have hp2 : Hid (padS (c ++ [bOf 48]) = padS code) := by unfold Hid; rw [pad_more c (by have := hcm.out; omega) (by have := hcm.out; omega)]; exact hpad.out
              have hb1 := hid (bytesC_snoc c 48 (by omega) (by omega))
              have hc3 : Hid ((c ++ [bOf 48]).length = m + 1) := by unfold Hid; rw [List.length_append, hcm.out]; rfl
              go_wp2_with (at_builtin; refine wpList_push _ rfl _ _ 36 rfl w2.heap.size 5 i0 _ 1 1 Tryd.underlying36 hi hz0 hz1 hz2 rfl (by decide) _ _ _ rfl hownc [.int .u8 48] rfl rfl (by simp [Value.oneCell']) (by unfold maxLen; omega) (by omega) hbsc ?_)
              intro g cap wp ownp grp _
              rw [← hb1.out] at ownp
              have bel := below_push hbc hownc grp hbsc
              clear grp hownc hbc
              go_wp2_with fail
              go_roundw
              case rel => exact ⟨m + 1, _, by omega, hp2, hc3, ownp, bel⟩
              case measure => simp [lenOf]; omega
            · have t1 : decide ((m : Int) < 4) = false := by simp; omega
              have hc2 : Hid (padS c = c) := pad_done c (by have := hcm.out; omega)
              have hcv := conv_RdB (l := c) (Rd.of_own hownc)
              have hout : Hid (strB c = soundB s) := by unfold Hid; rw [Hsb.out, ← hpad.out, hc2.out]
              rw [hout.out] at hcv
              go_wp2
              go_ret2
              exact ⟨by rw [Fin.out, Fin2.out]; rfl, (hx1.out.trans hE2.out).trans hbc⟩
  · have e1 : (askE 0 [s] != 0) = true := by simp [h]
    have Fin : Hid (okA 0 s (soundB s) = ByteArray.empty) := by unfold Hid okA; rw [if_neg h]
    clear h
    go_enter Tryd.func15, Tryd.ntmps15
    go_wp2_with fail
    refine (asked_any 0 _ _ _ [s] _ (RdS.new1 w s _)).mono ?_
    rintro e w1 ⟨rfl, rfl⟩
    go_wp2
    go_ret2
    exact ⟨by rw [Fin.out]; rfl, (Ext.refl w).alloc_right _⟩

theorem mapS_eq (f : Int → Int) (s : ByteArray) : mapS f s = strB (s.data.toList.map fun b => bOf (f (b.toNat : Int))) := by unfold mapS; rw [ByteArray.toList_eq]
theorem soundB_eq (s : ByteArray) : soundB s = strB (padS (sTo s.data.toList s.size).1) := by unfold soundB; rw [ByteArray.toList_eq]
theorem known1 (w : World) : Calls Tryd.prog 13 #[.string { data := #[228] }, .int .i64 1] w (GiveSN { data := #[196] } 0 w) := by
  have h := Upper_any { data := #[228] } 1 w
  have ha : askE 1 [{ data := #[228] }] = 0 := by decide
  rw [okA, if_pos ha, ha, mapS_eq] at h
  exact h
theorem known2 (w : World) : Calls Tryd.prog 13 #[.string { data := #[228] }, .int .i64 2] w (GiveSN { data := #[148] } 0 w) := by
  have h := Upper_any { data := #[228] } 2 w
  have ha : askE 2 [{ data := #[228] }] = 0 := by decide
  rw [okA, if_pos ha, ha, mapS_eq] at h
  exact h
theorem known3 (w : World) : Calls Tryd.prog 14 #[.string { data := #[233] }, .int .i64 1, .int .i64 1] w (GiveSN { data := #[69] } 0 w) := by
  have h := Weights_any { data := #[233] } 1 1 w
  have ha : askC 1 1 [{ data := #[233] }] = 0 := by decide
  rw [okC, if_pos ha, ha, mapS_eq] at h
  exact h
theorem known4 (w : World) : Calls Tryd.prog 15 #[.string { data := #[84, 121, 109, 99, 122, 97, 107] }] w (GiveSN { data := #[84, 53, 50, 50] } 0 w) := by
  have h := Sound_any { data := #[84, 121, 109, 99, 122, 97, 107] } w
  have ha : askE 0 [{ data := #[84, 121, 109, 99, 122, 97, 107] }] = 0 := by decide
  rw [okA, if_pos ha, ha, soundB_eq] at h
  exact h
set_option maxRecDepth 100000 in
set_option maxHeartbeats 2000000 in
theorem known_any (w : World) : Calls Tryd.prog 6 #[] w (Give (.bool true) w) := by
  go_enter Tryd.func6, Tryd.ntmps6
  go_wp2_with fail
  refine (known1 _).mono ?_
  rintro e w1 ⟨rfl, hx1⟩
  go_wp2_with fail
  refine (known2 _).mono ?_
  rintro e w2 ⟨rfl, hx2⟩
  go_wp2_with fail
  refine (known3 _).mono ?_
  rintro e w3 ⟨rfl, hx3⟩
  go_wp2_with fail
  refine (known4 _).mono ?_
  rintro e w4 ⟨rfl, hx4⟩
  have hE := hid (((hx1.trans hx2).trans hx3).trans hx4)
  clear hx1 hx2 hx3 hx4
  go_wp2
  go_ret
  exact ⟨rfl, hE.out⟩
theorem over_any (s : ByteArray) (w : World) : Calls Tryd.prog 5 #[.string s] w fun e w' => e = .returned (.bool (decide (16384 < s.size))) ∧ w = w' := by
  have e1 : decide ((16384 : Int) < (s.size : Int)) = decide (16384 < s.size) := by rw [decide_eq_decide]; omega
  go_enter Tryd.func5, Tryd.ntmps5
  go_wp2
  go_ret
  exact ⟨by first | rfl | exact ret_bool e1, rfl⟩
/-- One of the first k texts is longer than m. -/
def bigTo (m : Int) (l : List ByteArray) (k : Nat) : Bool := (l.take k).any fun s => decide (m < (s.size : Int))
theorem bigTo_succ (m : Int) (l : List ByteArray) (k : Nat) (hk : k < l.length) : bigTo m l (k + 1) = (bigTo m l k || decide (m < ((sth l k).size : Int))) := by
  unfold bigTo
  rw [List.take_succ_eq_append_getElem hk, List.any_append, show sth l k = l[k] by simp [sth, List.getD, hk]]
  simp only [List.any_cons, List.any_nil, Bool.or_false]
theorem big_of (m : Int) (l : List ByteArray) (k : Nat) (hk : k < l.length) (h : m < ((sth l k).size : Int)) : bigTo m l l.length = true := by
  unfold bigTo
  rw [List.take_length, List.any_eq_true]
  exact ⟨sth l k, by simp [sth, List.getD, hk], by simpa using h⟩
def pgTo (l : List Int) (k : Nat) : Bool := (l.take k).any pgB
theorem pgTo_succ (l : List Int) (k : Nat) (hk : k < l.length) : pgTo l (k + 1) = (pgTo l k || pgB (nth l k)) := by
  unfold pgTo
  rw [List.take_succ_eq_append_getElem hk, List.any_append, nth_lt hk]
  simp only [List.any_cons, List.any_nil, Bool.or_false]
theorem pg_of (l : List Int) (k : Nat) (hk : k < l.length) (h : pgB (nth l k) = true) : pgTo l l.length = true := by
  unfold pgTo
  rw [List.take_length, List.any_eq_true]
  exact ⟨nth l k, by rw [nth_lt hk]; simp, h⟩
def askR (m : Int) (l : List ByteArray) (c : Int) (ps : List Int) : Int :=
  if bigTo m l l.length then 3 else if pgTo ps ps.length then 1 else if c ≠ 0 ∧ c ≠ 1 then 1 else 0
set_option maxRecDepth 100000 in
set_option maxHeartbeats 2000000 in
theorem rasked_any (m : Int) (A : Option Addr) (n cp : Nat) (l : List ByteArray) (c : Int) (B : Option Addr) (n2 c2 : Nat) (ps : List Int) (w : World) (hs : RdS w A n cp l) (hp : RdI w B n2 c2 ps) :
    Calls Tryd.prog 19 #[.int .i64 m, .slice A n cp, .int .i64 c, .slice B n2 c2] w fun e w' => e = .returned (.int .i64 (askR m l c ps)) ∧ w = w' := by
  have Hl := hid hs.len
  have Hp := hid hp.len
  have hm := hs.max
  have hm2 := hp.max
  go_enter Tryd.func19, Tryd.ntmps19
  go_wp2_with fail
  go_loopw [9] (fun i wr => (∃ k : Nat, k ≤ n ∧ i = .int .i64 k ∧ Hid (bigTo m l k = false)) ∧ wr = w) (fun i _ => n - (intOf i).toNat)
  case atStart => exact ⟨⟨0, by omega, rfl, (rfl : bigTo m l 0 = false)⟩, rfl⟩
  case round =>
    obtain ⟨⟨k, hk, rfl, hno⟩, rfl⟩ := hrel
    by_cases hlt : k < n
    · obtain ⟨ad, rfl, hc⟩ := hs.at_ hlt
      have hlt' : k < l.length := by rw [Hl.out]; exact hlt
      by_cases hbig : m < ((sth l k).size : Int)
      · have Fin : Hid (askR m l c ps = 3) := by unfold Hid askR; rw [big_of m l k hlt' hbig]; rfl
        have e1 : decide (m < ((sth l k).size : Int)) = true := by simpa using hbig
        clear hlt' hbig
        go_wp2
        go_ret
        exact ⟨ret_int Fin.out.symm, rfl⟩
      · have e1 : decide (m < ((sth l k).size : Int)) = false := by simpa using hbig
        have hn2 : Hid (bigTo m l (k + 1) = false) := by unfold Hid; rw [bigTo_succ m l k hlt', hno.out, e1]; rfl
        clear hlt' hbig
        go_wp2
        go_roundw
        case rel => exact ⟨⟨k + 1, by omega, by go_num, hn2⟩, by trivial⟩
        case measure => simp [intOf]; omega
    · have hno' : Hid (bigTo m l l.length = false) := by
        have e : k = l.length := by rw [Hl.out]; omega
        rw [← e]; exact hno
      go_wp2_with fail
      go_loopw [10] (fun i wq => (∃ k : Nat, k ≤ n2 ∧ i = .int .i64 k ∧ Hid (pgTo ps k = false)) ∧ wq = wr) (fun i _ => n2 - (intOf i).toNat)
      case atStart => exact ⟨⟨0, by omega, rfl, (rfl : pgTo ps 0 = false)⟩, rfl⟩
      case round =>
        obtain ⟨⟨j, hj, rfl, hno2⟩, rfl⟩ := hrel
        by_cases hlj : j < n2
        · obtain ⟨ad, rfl, hc⟩ := hp.at_ hlj
          have hlj' : j < ps.length := by rw [Hp.out]; exact hlj
          rcases Bool.eq_false_or_eq_true (pgB (nth ps j)) with hb | hb
          · have Fin : Hid (askR m l c ps = 1) := by unfold Hid askR; rw [hno'.out, pg_of ps j hlj' hb]; rfl
            have hb' := hid hb
            clear hlj' hb
            rcases Bool.eq_false_or_eq_true (decide (nth ps j < 0)) with d1 | d1 <;> rcases Bool.eq_false_or_eq_true (decide (2 < nth ps j)) with d2 | d2 <;> (first | (exfalso; have := hb'.out; simp only [pgB, d1, d2] at this; cases this; done) | skip)
            all_goals go_wp2
            all_goals go_ret
            all_goals exact ⟨ret_int Fin.out.symm, rfl⟩
          · have hn2 : Hid (pgTo ps (j + 1) = false) := by unfold Hid; rw [pgTo_succ ps j hlj', hno2.out, hb]; rfl
            have d1 : decide (nth ps j < 0) = false := by simp only [pgB, Bool.or_eq_false_iff] at hb; exact hb.1
            have d2 : decide (2 < nth ps j) = false := by simp only [pgB, Bool.or_eq_false_iff] at hb; exact hb.2
            clear hlj' hb
            go_wp2
            go_roundw
            case rel => exact ⟨⟨j + 1, by omega, by go_num, hn2⟩, by trivial⟩
            case measure => simp [intOf]; omega
        · have hno2' : Hid (pgTo ps ps.length = false) := by
            have e : j = ps.length := by rw [Hp.out]; omega
            rw [← e]; exact hno2
          by_cases hc0 : c = 0
          · subst hc0
            have Fin : Hid (askR m l 0 ps = 0) := by unfold Hid askR; rw [hno'.out, hno2'.out]; rfl
            go_wp2
            go_ret
            exact ⟨ret_int Fin.out.symm, rfl⟩
          · by_cases hc1 : c = 1
            · subst hc1
              have Fin : Hid (askR m l 1 ps = 0) := by unfold Hid askR; rw [hno'.out, hno2'.out]; rfl
              go_wp2
              go_ret
              exact ⟨ret_int Fin.out.symm, rfl⟩
            · have Fin : Hid (askR m l c ps = 1) := by unfold Hid askR; rw [hno'.out, hno2'.out]; simp [hc0, hc1]
              have d1 : (c != 0) = true := by simpa using hc0
              have d2 : (c != 1) = true := by simpa using hc1
              clear hc0 hc1
              go_wp2
              go_ret
              exact ⟨ret_int Fin.out.symm, rfl⟩
theorem big_long (l : List ByteArray) (k : Nat) : bigTo 2048 l k = longTo l k := by
  unfold bigTo longTo
  congr 1
  funext s
  rw [decide_eq_decide]
  omega
theorem askR_E (p : Int) (l : List ByteArray) : askR 2048 l 0 [p] = askE p l := by
  unfold askR askE
  rw [big_long]
  simp [pgTo]
theorem askR_C (p c : Int) (l : List ByteArray) : askR 2048 l c [p] = askC p c l := by
  unfold askR askC askE
  rw [big_long]
  rcases Bool.eq_false_or_eq_true (longTo l l.length) with h | h <;> rcases Bool.eq_false_or_eq_true (pgB p) with h2 | h2 <;> simp [pgTo, h, h2]
  by_cases h0 : c = 0
  · simp [h0]
  · by_cases h1 : c = 1
    · simp [h1]
    · rw [if_pos ⟨h0, h1⟩, if_pos (by omega)]
theorem RdS.alloc {w : World} {A : Option Addr} {n c : Nat} {l : List ByteArray} (h : RdS w A n c l) (o : Obj) : RdS (w.alloc o) A n c l := Rd.alloc h o
theorem RdI.new1 (w : World) (x : Int) (t : TypeId) : RdI (w.alloc (.cells #[.int .i64 x] t)) (some ⟨w.heap.size, 0, none⟩) 1 1 [x] := Rd.new_ w [.int .i64 x] t 1 rfl (by decide)
theorem RdI.new1b (w : World) (o : Obj) (x : Int) (t : TypeId) : RdI ((w.alloc o).alloc (.cells #[.int .i64 x] t)) (some ⟨w.heap.size + 1, 0, none⟩) 1 1 [x] := by
  have h := RdI.new1 (w.alloc o) x t
  rwa [show (w.alloc o).heap.size = w.heap.size + 1 by simp] at h
theorem rplain {x p c : Int} : weightS x p c = if c == 0 || !isLetS x p then x else if p == 1 then plainS (upS_ x p) else upS_ x p := rfl
end Go.Proofs.YtlhnabkfacmmnaaDoor
