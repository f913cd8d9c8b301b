/-
  Contracts that were proved for another law's share, for this one.
-/
import Derived.Test.YtlfanhlkoepodaaDoorProg
import Derived.Test.YtlfanhlkoepodaaDoorBase
import Derived.Laws.IdiomStrings
import Derived.OwnWalk
import Derived.Laws.Concat
import Derived.Lib.Strings
import Derived.Lib.Slices
import Derived.Lib.Walk
import Derived.Lib.Bytealg
namespace Go.Proofs.YtlfanhlkoepodaaDoor.Pg
open Go.RowKit
set_option linter.unusedVariables false
set_option linter.unusedSimpArgs false
def withinB (x lo hi : Int) : Bool := decide (lo ≤ x) && decide (x ≤ hi)
def isCapS (x p : Int) : Bool := withinB x 65 90 || (decide (p = 1) && withinB x 192 222 && x != 215) || (decide (p = 2) && withinB x 128 159)
def isSmallA (x p : Int) : Bool := withinB x 97 122 || (decide (p = 1) && withinB x 224 254 && x != 247) || (decide (p = 2) && withinB x 160 175)
def isSmallB (x p : Int) : Bool := decide (p = 2) && withinB x 224 239
def isSmallS (x p : Int) : Bool := isSmallA x p || isSmallB x p
def upS_ (x p : Int) : Int := if isSmallA x p then x - 32 else if isSmallB x p then x - 80 else x
def isLetS (x p : Int) : Bool := isSmallS x p || isCapS x p
def lowS (x p : Int) : Int := if isCapS x p then (if decide (p = 2) && decide (144 ≤ x) then x + 80 else x + 32) else x
def Pg (p : Int) : Prop := p = 0 ∨ p = 1 ∨ p = 2
theorem ret_bb {a b : Bool} {x y : Int} (h : x = y) (h' : a = b) : Ending.returned (.tuple #[.int .u8 x, .bool a]) = .returned (.tuple #[.int .u8 y, .bool b]) := by rw [h, h']
theorem within_lt {x lo hi : Int} (h : withinB x lo hi = true) : lo ≤ x ∧ x ≤ hi := by simpa [withinB] using h
theorem within_any (x lo hi : Int) (w : World) : Calls Tryd.prog 135 #[.int .u8 x, .int .u8 lo, .int .u8 hi] w fun e w' => e = .returned (.bool (withinB x lo hi)) ∧ w = w' := by
  by_cases h1 : lo ≤ x
  · by_cases h2 : x ≤ hi
    · have d1 : decide (lo ≤ x) = true := by simpa using h1
      have d2 : decide (x ≤ hi) = true := by simpa using h2
      have Fin : Hid (withinB x lo hi = true) := by simp [Hid, withinB, h1, h2]
      go_enter Tryd.func135, Tryd.ntmps135
      go_wp2
      go_ret
      exact ⟨ret_bool Fin.out.symm, rfl⟩
    · have d1 : decide (lo ≤ x) = true := by simpa using h1
      have d2 : decide (x ≤ hi) = false := by simpa using h2
      have Fin : Hid (withinB x lo hi = false) := by simp [Hid, withinB]; omega
      go_enter Tryd.func135, Tryd.ntmps135
      go_wp2
      go_ret
      exact ⟨ret_bool Fin.out.symm, rfl⟩
  · have d1 : decide (lo ≤ x) = false := by simpa using h1
    have Fin : Hid (withinB x lo hi = false) := by simp [Hid, withinB]; omega
    go_enter Tryd.func135, Tryd.ntmps135
    go_wp2
    go_ret
    exact ⟨ret_bool Fin.out.symm, rfl⟩
set_option maxRecDepth 100000 in
set_option maxHeartbeats 1000000 in
theorem isCap_any (x p : Int) (hp : Pg p) (w : World) : Calls Tryd.prog 134 #[.int .u8 x, .int .i64 p] w fun e w' => e = .returned (.bool (isCapS x p)) ∧ w = w' := by
  rcases hp with rfl | rfl | rfl
  · rcases Bool.eq_false_or_eq_true (withinB x 65 90) with h1 | h1
    · go_enter Tryd.func134, Tryd.ntmps134
      go_wp2_with (go_at_call 135; refine (within_any _ _ _ _).mono ?_; rintro e w' ⟨rfl, rfl⟩)
      go_ret
      exact ⟨ret_bool (by simp [isCapS, h1]), rfl⟩
    · go_enter Tryd.func134, Tryd.ntmps134
      go_wp2_with (go_at_call 135; refine (within_any _ _ _ _).mono ?_; rintro e w' ⟨rfl, rfl⟩)
      go_ret
      exact ⟨ret_bool (by simp [isCapS, h1]), rfl⟩
  · rcases Bool.eq_false_or_eq_true (withinB x 65 90) with h1 | h1
    · rcases Bool.eq_false_or_eq_true (withinB x 192 222) with h2 | h2
      · rcases Bool.eq_false_or_eq_true (x != 215) with h3 | h3
        · go_enter Tryd.func134, Tryd.ntmps134
          go_wp2_with (go_at_call 135; refine (within_any _ _ _ _).mono ?_; rintro e w' ⟨rfl, rfl⟩)
          go_ret
          exact ⟨ret_bool (by simp [isCapS, h1, h2, h3]), rfl⟩
        · go_enter Tryd.func134, Tryd.ntmps134
          go_wp2_with (go_at_call 135; refine (within_any _ _ _ _).mono ?_; rintro e w' ⟨rfl, rfl⟩)
          go_ret
          exact ⟨ret_bool (by simp [isCapS, h1, h2, h3]), rfl⟩
      · rcases Bool.eq_false_or_eq_true (x != 215) with h3 | h3
        · go_enter Tryd.func134, Tryd.ntmps134
          go_wp2_with (go_at_call 135; refine (within_any _ _ _ _).mono ?_; rintro e w' ⟨rfl, rfl⟩)
          go_ret
          exact ⟨ret_bool (by simp [isCapS, h1, h2, h3]), rfl⟩
        · go_enter Tryd.func134, Tryd.ntmps134
          go_wp2_with (go_at_call 135; refine (within_any _ _ _ _).mono ?_; rintro e w' ⟨rfl, rfl⟩)
          go_ret
          exact ⟨ret_bool (by simp [isCapS, h1, h2, h3]), rfl⟩
    · rcases Bool.eq_false_or_eq_true (withinB x 192 222) with h2 | h2
      · rcases Bool.eq_false_or_eq_true (x != 215) with h3 | h3
        · go_enter Tryd.func134, Tryd.ntmps134
          go_wp2_with (go_at_call 135; refine (within_any _ _ _ _).mono ?_; rintro e w' ⟨rfl, rfl⟩)
          go_ret
          exact ⟨ret_bool (by simp [isCapS, h1, h2, h3]), rfl⟩
        · go_enter Tryd.func134, Tryd.ntmps134
          go_wp2_with (go_at_call 135; refine (within_any _ _ _ _).mono ?_; rintro e w' ⟨rfl, rfl⟩)
          go_ret
          exact ⟨ret_bool (by simp [isCapS, h1, h2, h3]), rfl⟩
      · rcases Bool.eq_false_or_eq_true (x != 215) with h3 | h3
        · go_enter Tryd.func134, Tryd.ntmps134
          go_wp2_with (go_at_call 135; refine (within_any _ _ _ _).mono ?_; rintro e w' ⟨rfl, rfl⟩)
          go_ret
          exact ⟨ret_bool (by simp [isCapS, h1, h2, h3]), rfl⟩
        · go_enter Tryd.func134, Tryd.ntmps134
          go_wp2_with (go_at_call 135; refine (within_any _ _ _ _).mono ?_; rintro e w' ⟨rfl, rfl⟩)
          go_ret
          exact ⟨ret_bool (by simp [isCapS, h1, h2, h3]), rfl⟩
  · rcases Bool.eq_false_or_eq_true (withinB x 65 90) with h1 | h1
    · rcases Bool.eq_false_or_eq_true (withinB x 128 159) with h4 | h4
      · go_enter Tryd.func134, Tryd.ntmps134
        go_wp2_with (go_at_call 135; refine (within_any _ _ _ _).mono ?_; rintro e w' ⟨rfl, rfl⟩)
        go_ret
        exact ⟨ret_bool (by simp [isCapS, h1, h4]), rfl⟩
      · go_enter Tryd.func134, Tryd.ntmps134
        go_wp2_with (go_at_call 135; refine (within_any _ _ _ _).mono ?_; rintro e w' ⟨rfl, rfl⟩)
        go_ret
        exact ⟨ret_bool (by simp [isCapS, h1, h4]), rfl⟩
    · rcases Bool.eq_false_or_eq_true (withinB x 128 159) with h4 | h4
      · go_enter Tryd.func134, Tryd.ntmps134
        go_wp2_with (go_at_call 135; refine (within_any _ _ _ _).mono ?_; rintro e w' ⟨rfl, rfl⟩)
        go_ret
        exact ⟨ret_bool (by simp [isCapS, h1, h4]), rfl⟩
      · go_enter Tryd.func134, Tryd.ntmps134
        go_wp2_with (go_at_call 135; refine (within_any _ _ _ _).mono ?_; rintro e w' ⟨rfl, rfl⟩)
        go_ret
        exact ⟨ret_bool (by simp [isCapS, h1, h4]), rfl⟩
set_option maxRecDepth 100000 in
set_option maxHeartbeats 1000000 in
theorem cap_any (x p : Int) (hp : Pg p) (w : World) (h0 : 0 ≤ x) (h255 : x ≤ 255) : Calls Tryd.prog 133 #[.int .u8 x, .int .i64 p] w fun e w' => e = .returned (.tuple #[.int .u8 (upS_ x p), .bool (isSmallS x p)]) ∧ w = w' := by
  rcases hp with rfl | rfl | rfl
  · rcases Bool.eq_false_or_eq_true (withinB x 97 122) with h1 | h1
    · go_enter Tryd.func133, Tryd.ntmps133
      go_wp2_with (go_at_call 135; refine (within_any _ _ _ _).mono ?_; rintro e w' ⟨rfl, rfl⟩)
      go_ret2
      exact ⟨ret_bb (by simp [upS_, isSmallA, isSmallB, h1]; try (simp [withinB] at h1; omega)) (by simp [isSmallS, isSmallA, isSmallB, h1]), rfl⟩
    · go_enter Tryd.func133, Tryd.ntmps133
      go_wp2_with (go_at_call 135; refine (within_any _ _ _ _).mono ?_; rintro e w' ⟨rfl, rfl⟩)
      go_ret2
      exact ⟨ret_bb (by simp [upS_, isSmallA, isSmallB, h1]; try (simp [withinB] at h1; omega)) (by simp [isSmallS, isSmallA, isSmallB, h1]), rfl⟩
  · rcases Bool.eq_false_or_eq_true (withinB x 97 122) with h1 | h1
    · rcases Bool.eq_false_or_eq_true (withinB x 224 254) with h2 | h2
      · rcases Bool.eq_false_or_eq_true (x != 247) with h3 | h3
        · go_enter Tryd.func133, Tryd.ntmps133
          go_wp2_with (go_at_call 135; refine (within_any _ _ _ _).mono ?_; rintro e w' ⟨rfl, rfl⟩)
          go_ret2
          exact ⟨ret_bb (by simp [upS_, isSmallA, isSmallB, h1, h2, h3]; try (simp [withinB] at h1 h2 h3; omega)) (by simp [isSmallS, isSmallA, isSmallB, h1, h2, h3]), rfl⟩
        · go_enter Tryd.func133, Tryd.ntmps133
          go_wp2_with (go_at_call 135; refine (within_any _ _ _ _).mono ?_; rintro e w' ⟨rfl, rfl⟩)
          go_ret2
          exact ⟨ret_bb (by simp [upS_, isSmallA, isSmallB, h1, h2, h3]; try (simp [withinB] at h1 h2 h3; omega)) (by simp [isSmallS, isSmallA, isSmallB, h1, h2, h3]), rfl⟩
      · rcases Bool.eq_false_or_eq_true (x != 247) with h3 | h3
        · go_enter Tryd.func133, Tryd.ntmps133
          go_wp2_with (go_at_call 135; refine (within_any _ _ _ _).mono ?_; rintro e w' ⟨rfl, rfl⟩)
          go_ret2
          exact ⟨ret_bb (by simp [upS_, isSmallA, isSmallB, h1, h2, h3]; try (simp [withinB] at h1 h2 h3; omega)) (by simp [isSmallS, isSmallA, isSmallB, h1, h2, h3]), rfl⟩
        · go_enter Tryd.func133, Tryd.ntmps133
          go_wp2_with (go_at_call 135; refine (within_any _ _ _ _).mono ?_; rintro e w' ⟨rfl, rfl⟩)
          go_ret2
          exact ⟨ret_bb (by simp [upS_, isSmallA, isSmallB, h1, h2, h3]; try (simp [withinB] at h1 h2 h3; omega)) (by simp [isSmallS, isSmallA, isSmallB, h1, h2, h3]), rfl⟩
    · rcases Bool.eq_false_or_eq_true (withinB x 224 254) with h2 | h2
      · rcases Bool.eq_false_or_eq_true (x != 247) with h3 | h3
        · go_enter Tryd.func133, Tryd.ntmps133
          go_wp2_with (go_at_call 135; refine (within_any _ _ _ _).mono ?_; rintro e w' ⟨rfl, rfl⟩)
          go_ret2
          exact ⟨ret_bb (by simp [upS_, isSmallA, isSmallB, h1, h2, h3]; try (simp [withinB] at h1 h2 h3; omega)) (by simp [isSmallS, isSmallA, isSmallB, h1, h2, h3]), rfl⟩
        · go_enter Tryd.func133, Tryd.ntmps133
          go_wp2_with (go_at_call 135; refine (within_any _ _ _ _).mono ?_; rintro e w' ⟨rfl, rfl⟩)
          go_ret2
          exact ⟨ret_bb (by simp [upS_, isSmallA, isSmallB, h1, h2, h3]; try (simp [withinB] at h1 h2 h3; omega)) (by simp [isSmallS, isSmallA, isSmallB, h1, h2, h3]), rfl⟩
      · rcases Bool.eq_false_or_eq_true (x != 247) with h3 | h3
        · go_enter Tryd.func133, Tryd.ntmps133
          go_wp2_with (go_at_call 135; refine (within_any _ _ _ _).mono ?_; rintro e w' ⟨rfl, rfl⟩)
          go_ret2
          exact ⟨ret_bb (by simp [upS_, isSmallA, isSmallB, h1, h2, h3]; try (simp [withinB] at h1 h2 h3; omega)) (by simp [isSmallS, isSmallA, isSmallB, h1, h2, h3]), rfl⟩
        · go_enter Tryd.func133, Tryd.ntmps133
          go_wp2_with (go_at_call 135; refine (within_any _ _ _ _).mono ?_; rintro e w' ⟨rfl, rfl⟩)
          go_ret2
          exact ⟨ret_bb (by simp [upS_, isSmallA, isSmallB, h1, h2, h3]; try (simp [withinB] at h1 h2 h3; omega)) (by simp [isSmallS, isSmallA, isSmallB, h1, h2, h3]), rfl⟩
  · rcases Bool.eq_false_or_eq_true (withinB x 97 122) with h1 | h1
    · rcases Bool.eq_false_or_eq_true (withinB x 160 175) with h4 | h4
      · rcases Bool.eq_false_or_eq_true (withinB x 224 239) with h5 | h5
        · go_enter Tryd.func133, Tryd.ntmps133
          go_wp2_with (go_at_call 135; refine (within_any _ _ _ _).mono ?_; rintro e w' ⟨rfl, rfl⟩)
          go_ret2
          exact ⟨ret_bb (by simp [upS_, isSmallA, isSmallB, h1, h4, h5]; try (simp [withinB] at h1 h4 h5; omega)) (by simp [isSmallS, isSmallA, isSmallB, h1, h4, h5]), rfl⟩
        · go_enter Tryd.func133, Tryd.ntmps133
          go_wp2_with (go_at_call 135; refine (within_any _ _ _ _).mono ?_; rintro e w' ⟨rfl, rfl⟩)
          go_ret2
          exact ⟨ret_bb (by simp [upS_, isSmallA, isSmallB, h1, h4, h5]; try (simp [withinB] at h1 h4 h5; omega)) (by simp [isSmallS, isSmallA, isSmallB, h1, h4, h5]), rfl⟩
      · rcases Bool.eq_false_or_eq_true (withinB x 224 239) with h5 | h5
        · go_enter Tryd.func133, Tryd.ntmps133
          go_wp2_with (go_at_call 135; refine (within_any _ _ _ _).mono ?_; rintro e w' ⟨rfl, rfl⟩)
          go_ret2
          exact ⟨ret_bb (by simp [upS_, isSmallA, isSmallB, h1, h4, h5]; try (simp [withinB] at h1 h4 h5; omega)) (by simp [isSmallS, isSmallA, isSmallB, h1, h4, h5]), rfl⟩
        · go_enter Tryd.func133, Tryd.ntmps133
          go_wp2_with (go_at_call 135; refine (within_any _ _ _ _).mono ?_; rintro e w' ⟨rfl, rfl⟩)
          go_ret2
          exact ⟨ret_bb (by simp [upS_, isSmallA, isSmallB, h1, h4, h5]; try (simp [withinB] at h1 h4 h5; omega)) (by simp [isSmallS, isSmallA, isSmallB, h1, h4, h5]), rfl⟩
    · rcases Bool.eq_false_or_eq_true (withinB x 160 175) with h4 | h4
      · rcases Bool.eq_false_or_eq_true (withinB x 224 239) with h5 | h5
        · go_enter Tryd.func133, Tryd.ntmps133
          go_wp2_with (go_at_call 135; refine (within_any _ _ _ _).mono ?_; rintro e w' ⟨rfl, rfl⟩)
          go_ret2
          exact ⟨ret_bb (by simp [upS_, isSmallA, isSmallB, h1, h4, h5]; try (simp [withinB] at h1 h4 h5; omega)) (by simp [isSmallS, isSmallA, isSmallB, h1, h4, h5]), rfl⟩
        · go_enter Tryd.func133, Tryd.ntmps133
          go_wp2_with (go_at_call 135; refine (within_any _ _ _ _).mono ?_; rintro e w' ⟨rfl, rfl⟩)
          go_ret2
          exact ⟨ret_bb (by simp [upS_, isSmallA, isSmallB, h1, h4, h5]; try (simp [withinB] at h1 h4 h5; omega)) (by simp [isSmallS, isSmallA, isSmallB, h1, h4, h5]), rfl⟩
      · rcases Bool.eq_false_or_eq_true (withinB x 224 239) with h5 | h5
        · go_enter Tryd.func133, Tryd.ntmps133
          go_wp2_with (go_at_call 135; refine (within_any _ _ _ _).mono ?_; rintro e w' ⟨rfl, rfl⟩)
          go_ret2
          exact ⟨ret_bb (by simp [upS_, isSmallA, isSmallB, h1, h4, h5]; try (simp [withinB] at h1 h4 h5; omega)) (by simp [isSmallS, isSmallA, isSmallB, h1, h4, h5]), rfl⟩
        · go_enter Tryd.func133, Tryd.ntmps133
          go_wp2_with (go_at_call 135; refine (within_any _ _ _ _).mono ?_; rintro e w' ⟨rfl, rfl⟩)
          go_ret2
          exact ⟨ret_bb (by simp [upS_, isSmallA, isSmallB, h1, h4, h5]; try (simp [withinB] at h1 h4 h5; omega)) (by simp [isSmallS, isSmallA, isSmallB, h1, h4, h5]), rfl⟩
theorem isLet_any (x p : Int) (hp : Pg p) (w : World) (h0 : 0 ≤ x) (h255 : x ≤ 255) : Calls Tryd.prog 120 #[.int .u8 x, .int .i64 p] w fun e w' => e = .returned (.bool (isLetS x p)) ∧ w = w' := by
  rcases Bool.eq_false_or_eq_true (isSmallS x p) with h | h
  · go_enter Tryd.func120, Tryd.ntmps120
    go_wp2_with fail
    refine (cap_any _ _ hp _ h0 h255).mono ?_
    rintro e w' ⟨rfl, rfl⟩
    go_wp2_with fail
    go_ret
    exact ⟨ret_bool (by simp [isLetS, h]), rfl⟩
  · go_enter Tryd.func120, Tryd.ntmps120
    go_wp2_with fail
    refine (cap_any _ _ hp _ h0 h255).mono ?_
    rintro e w' ⟨rfl, rfl⟩
    go_wp2_with fail
    refine (isCap_any _ _ hp _).mono ?_
    rintro e w' ⟨rfl, rfl⟩
    go_wp2_with fail
    go_ret
    exact ⟨ret_bool (by simp [isLetS, h]), rfl⟩
theorem upper_any (x p : Int) (hp : Pg p) (w : World) (h0 : 0 ≤ x) (h255 : x ≤ 255) : Calls Tryd.prog 121 #[.int .u8 x, .int .i64 p] w fun e w' => e = .returned (.int .u8 (upS_ x p)) ∧ w = w' := by
  go_enter Tryd.func121, Tryd.ntmps121
  go_wp2_with fail
  refine (cap_any _ _ hp _ h0 h255).mono ?_
  rintro e w' ⟨rfl, rfl⟩
  go_wp2_with fail
  go_ret
  exact ⟨rfl, rfl⟩
theorem cap_bounds {x p : Int} (h : isCapS x p = true) : x ≤ 222 ∧ (p ≠ 2 ∨ x ≤ 159) := by
  simp [isCapS, withinB] at h
  omega
def plainS (x : Int) : Int :=
  if withinB x 192 197 then 65 else if x == 199 then 67 else if withinB x 200 203 then 69 else if withinB x 204 207 then 73 else if x == 209 then 78 else
  if withinB x 210 214 then 79 else if withinB x 217 220 then 85 else if x == 221 then 89 else x
def weightS (x p c : Int) : Int := if c == 0 || !isLetS x p then x else if p == 1 then plainS (upS_ x p) else upS_ x p
set_option maxRecDepth 100000 in
set_option maxHeartbeats 1000000 in
theorem plain_any (x : Int) (w : World) : Calls Tryd.prog 122 #[.int .u8 x] w fun e w' => e = .returned (.int .u8 (plainS x)) ∧ w = w' := by
  rcases Bool.eq_false_or_eq_true (withinB x 192 197) with a1 | a1
  · go_enter Tryd.func122, Tryd.ntmps122
    go_wp2_with (go_at_call 135; refine (within_any _ _ _ _).mono ?_; rintro e w' ⟨rfl, rfl⟩)
    go_ret
    exact ⟨ret_int (by simp [plainS, a1]), rfl⟩
  · rcases Bool.eq_false_or_eq_true (x == 199) with a2 | a2
    · go_enter Tryd.func122, Tryd.ntmps122
      go_wp2_with (go_at_call 135; refine (within_any _ _ _ _).mono ?_; rintro e w' ⟨rfl, rfl⟩)
      go_ret
      exact ⟨ret_int (by simp [plainS, a1, a2]), rfl⟩
    · rcases Bool.eq_false_or_eq_true (withinB x 200 203) with a3 | a3
      · go_enter Tryd.func122, Tryd.ntmps122
        go_wp2_with (go_at_call 135; refine (within_any _ _ _ _).mono ?_; rintro e w' ⟨rfl, rfl⟩)
        go_ret
        exact ⟨ret_int (by simp [plainS, a1, a2, a3]), rfl⟩
      · rcases Bool.eq_false_or_eq_true (withinB x 204 207) with a4 | a4
        · go_enter Tryd.func122, Tryd.ntmps122
          go_wp2_with (go_at_call 135; refine (within_any _ _ _ _).mono ?_; rintro e w' ⟨rfl, rfl⟩)
          go_ret
          exact ⟨ret_int (by simp [plainS, a1, a2, a3, a4]), rfl⟩
        · rcases Bool.eq_false_or_eq_true (x == 209) with a5 | a5
          · go_enter Tryd.func122, Tryd.ntmps122
            go_wp2_with (go_at_call 135; refine (within_any _ _ _ _).mono ?_; rintro e w' ⟨rfl, rfl⟩)
            go_ret
            exact ⟨ret_int (by simp [plainS, a1, a2, a3, a4, a5]), rfl⟩
          · rcases Bool.eq_false_or_eq_true (withinB x 210 214) with a6 | a6
            · go_enter Tryd.func122, Tryd.ntmps122
              go_wp2_with (go_at_call 135; refine (within_any _ _ _ _).mono ?_; rintro e w' ⟨rfl, rfl⟩)
              go_ret
              exact ⟨ret_int (by simp [plainS, a1, a2, a3, a4, a5, a6]), rfl⟩
            · rcases Bool.eq_false_or_eq_true (withinB x 217 220) with a7 | a7
              · go_enter Tryd.func122, Tryd.ntmps122
                go_wp2_with (go_at_call 135; refine (within_any _ _ _ _).mono ?_; rintro e w' ⟨rfl, rfl⟩)
                go_ret
                exact ⟨ret_int (by simp [plainS, a1, a2, a3, a4, a5, a6, a7]), rfl⟩
              · rcases Bool.eq_false_or_eq_true (x == 221) with a8 | a8
                · go_enter Tryd.func122, Tryd.ntmps122
                  go_wp2_with (go_at_call 135; refine (within_any _ _ _ _).mono ?_; rintro e w' ⟨rfl, rfl⟩)
                  go_ret
                  exact ⟨ret_int (by simp [plainS, a1, a2, a3, a4, a5, a6, a7, a8]), rfl⟩
                · go_enter Tryd.func122, Tryd.ntmps122
                  go_wp2_with (go_at_call 135; refine (within_any _ _ _ _).mono ?_; rintro e w' ⟨rfl, rfl⟩)
                  go_ret
                  exact ⟨ret_int (by simp [plainS, a1, a2, a3, a4, a5, a6, a7, a8]), rfl⟩
theorem upS_rng {x p : Int} (h0 : 0 ≤ x) (h255 : x ≤ 255) : 0 ≤ upS_ x p ∧ upS_ x p ≤ 255 := by
  unfold upS_
  split
  · rename_i h; simp [isSmallA, withinB] at h; omega
  · split
    · rename_i h; simp [isSmallB, withinB] at h; omega
    · omega
theorem lowS_rng {x p : Int} (h0 : 0 ≤ x) (h255 : x ≤ 255) : 0 ≤ lowS x p ∧ lowS x p ≤ 255 := by
  unfold lowS
  split
  · rename_i h
    have := cap_bounds h
    split
    · rename_i h2; simp at h2; omega
    · omega
  · omega
theorem plainS_rng {x : Int} (h0 : 0 ≤ x) (h255 : x ≤ 255) : 0 ≤ plainS x ∧ plainS x ≤ 255 := by
  unfold plainS
  repeat' split
  all_goals omega
theorem weightS_rng {x p c : Int} (h0 : 0 ≤ x) (h255 : x ≤ 255) : 0 ≤ weightS x p c ∧ weightS x p c ≤ 255 := by
  have h := upS_rng (x := x) (p := p) h0 h255
  unfold weightS
  split
  · omega
  · split
    · exact plainS_rng h.1 h.2
    · exact h
set_option maxRecDepth 100000 in
set_option maxHeartbeats 1000000 in
theorem weight_any (x p c : Int) (hp : Pg p) (w : World) (h0 : 0 ≤ x) (h255 : x ≤ 255) : Calls Tryd.prog 106 #[.int .u8 x, .int .i64 p, .int .i64 c] w fun e w' => e = .returned (.int .u8 (weightS x p c)) ∧ w = w' := by
  rcases Bool.eq_false_or_eq_true (c == 0) with hc | hc
  · go_enter Tryd.func106, Tryd.ntmps106
    go_wp2_with fail
    go_ret
    exact ⟨ret_int (by simp [weightS, hc]), rfl⟩
  · rcases Bool.eq_false_or_eq_true (isLetS x p) with hl | hl
    · rcases Bool.eq_false_or_eq_true (p == 1) with h1 | h1
      · go_enter Tryd.func106, Tryd.ntmps106
        go_wp2_with fail
        refine (isLet_any _ _ hp _ h0 h255).mono ?_
        rintro e w' ⟨rfl, rfl⟩
        go_wp2_with fail
        refine (upper_any _ _ hp _ h0 h255).mono ?_
        rintro e w' ⟨rfl, rfl⟩
        go_wp2_with fail
        refine (plain_any _ _).mono ?_
        rintro e w' ⟨rfl, rfl⟩
        go_wp2_with fail
        go_ret
        exact ⟨ret_int (by simp [weightS, hc, hl, h1]), rfl⟩
      · go_enter Tryd.func106, Tryd.ntmps106
        go_wp2_with fail
        refine (isLet_any _ _ hp _ h0 h255).mono ?_
        rintro e w' ⟨rfl, rfl⟩
        go_wp2_with fail
        refine (upper_any _ _ hp _ h0 h255).mono ?_
        rintro e w' ⟨rfl, rfl⟩
        go_wp2_with fail
        go_ret
        exact ⟨ret_int (by simp [weightS, hc, hl, h1]), rfl⟩
    · go_enter Tryd.func106, Tryd.ntmps106
      go_wp2_with fail
      refine (isLet_any _ _ hp _ h0 h255).mono ?_
      rintro e w' ⟨rfl, rfl⟩
      go_wp2_with fail
      go_ret
      exact ⟨ret_int (by simp [weightS, hl]), rfl⟩

/-! ### Slices of strings, of bytes -/
def strs (l : List ByteArray) : List Value := l.map Value.string
def RdS (w : World) (A : Option Addr) (n c : Nat) (l : List ByteArray) : Prop := Rd w 1 A n c (strs l)
def sth (l : List ByteArray) (k : Nat) : ByteArray := l.getD k ByteArray.empty
section
variable {w w' : World} {n c : Nat} {A : Option Addr} {l : List ByteArray}
theorem RdS.len (h : RdS w A n c l) : l.length = n := by have := h.1; simpa [strs] using this
theorem RdS.max (h : RdS w A n c l) : n ≤ 9223372036854775807 ∧ n ≤ c ∧ c ≤ 9223372036854775807 := Rd.max h
theorem RdS.at_ (h : RdS w A n c l) {k : Nat} (hk : k < n) : ∃ ad, A = some ad ∧ w.cell? (ad.add k) = some (.string (sth l k)) := by
  obtain ⟨ad, hA, hc⟩ := h.2.2.2 (by omega)
  have hl := h.len
  exact ⟨ad, hA, hc k _ (by simp [strs, sth, List.getD, hl, hk])⟩
theorem RdS.ext (h : RdS w A n c l) (hb : Ext w w') : RdS w' A n c l := Rd.ext h hb
end
theorem Rd.new_ (w : World) (cs : List Value) (t : TypeId) (n : Nat) (hn : cs.length = n) (hm : n ≤ maxLen) : Rd (w.alloc (.cells cs.toArray t)) 1 (some ⟨w.heap.size, 0, none⟩) n n cs :=
  ⟨by omega, Nat.le_refl _, hm, fun _ => ⟨_, rfl, World.news_of_block (cs := cs.toArray) (heap_alloc_new w _)⟩⟩
theorem RdS.new1 (w : World) (s : ByteArray) (t : TypeId) : RdS (w.alloc (.cells #[.string s] t)) (some ⟨w.heap.size, 0, none⟩) 1 1 [s] := Rd.new_ w [.string s] t 1 rfl (by decide)
theorem RdS.new2 (w : World) (s u : ByteArray) (t : TypeId) : RdS (w.alloc (.cells #[.string s, .string u] t)) (some ⟨w.heap.size, 0, none⟩) 2 2 [s, u] := Rd.new_ w [.string s, .string u] t 2 rfl (by decide)
/-- One of the first k texts is too long. -/
def longTo (l : List ByteArray) (k : Nat) : Bool := (l.take k).any fun s => decide (2048 < s.size)
theorem longTo_succ (l : List ByteArray) (k : Nat) (hk : k < l.length) : longTo l (k + 1) = (longTo l k || decide (2048 < (sth l k).size)) := by
  unfold longTo
  rw [List.take_succ_eq_append_getElem hk, List.any_append, show sth l k = l[k] by simp [sth, List.getD, hk]]
  simp only [List.any_cons, List.any_nil, Bool.or_false]
theorem long_of (l : List ByteArray) (k : Nat) (hk : k < l.length) (h : 2048 < (sth l k).size) : longTo l l.length = true := by
  unfold longTo
  rw [List.take_length, List.any_eq_true]
  exact ⟨sth l k, by simp [sth, List.getD, hk], by simpa using h⟩
def pgB (p : Int) : Bool := decide (p < 0) || decide (2 < p)
def askE (p : Int) (l : List ByteArray) : Int := if longTo l l.length then 3 else if pgB p then 1 else 0

set_option maxRecDepth 100000 in
set_option maxHeartbeats 1000000 in
theorem asked_any (p : Int) (A : Option Addr) (n c : Nat) (l : List ByteArray) (w : World) (hs : RdS w A n c l) :
    Calls Tryd.prog 105 #[.int .i64 p, .slice A n c] w fun e w' => e = .returned (.int .i64 (askE p l)) ∧ w = w' := by
  have Hl := hid hs.len
  have hm := hs.max
  go_enter Tryd.func105, Tryd.ntmps105
  go_wp2_with fail
  go_loopw [9] (fun i wr => (∃ k : Nat, k ≤ n ∧ i = .int .i64 k ∧ Hid (longTo l k = false)) ∧ wr = w) (fun i _ => n - (intOf i).toNat)
  case atStart => exact ⟨⟨0, by omega, rfl, (rfl : longTo l 0 = false)⟩, rfl⟩
  case round =>
    obtain ⟨⟨k, hk, rfl, hno⟩, rfl⟩ := hrel
    by_cases hlt : k < n
    · obtain ⟨ad, rfl, hc⟩ := hs.at_ hlt
      have hlt' : k < l.length := by rw [Hl.out]; exact hlt
      by_cases hbig : 2048 < (sth l k).size
      · have Fin : Hid (askE p l = 3) := by unfold Hid askE; rw [long_of l k hlt' hbig]; rfl
        have e1 : decide ((2048 : Int) < ((sth l k).size : Int)) = true := by simp; omega
        clear hlt' hbig
        go_wp2
        go_ret
        exact ⟨ret_int Fin.out.symm, rfl⟩
      · have e1 : decide ((2048 : Int) < ((sth l k).size : Int)) = false := by simp; omega
        have hn2 : Hid (longTo l (k + 1) = false) := by unfold Hid; rw [longTo_succ l k hlt', hno.out]; simp; omega
        clear hlt' hbig
        go_wp2
        go_roundw
        case rel => exact ⟨⟨k + 1, by omega, by go_num, hn2⟩, by trivial⟩
        case measure => simp [intOf]; omega
    · have hno' : Hid (longTo l l.length = false) := by
        have e : k = l.length := by rw [Hl.out]; omega
        rw [← e]; exact hno
      by_cases h1 : p < 0
      · have e1 : decide (p < 0) = true := by simpa using h1
        have Fin : Hid (askE p l = 1) := by unfold Hid askE pgB; rw [hno'.out, e1]; rfl
        clear h1
        go_wp2
        go_ret
        exact ⟨ret_int Fin.out.symm, rfl⟩
      · have e1 : decide (p < 0) = false := by simpa using h1
        by_cases h2 : 2 < p
        · have e2 : decide (2 < p) = true := by simpa using h2
          have Fin : Hid (askE p l = 1) := by unfold Hid askE pgB; rw [hno'.out, e1, e2]; rfl
          clear h1 h2
          go_wp2
          go_ret
          exact ⟨ret_int Fin.out.symm, rfl⟩
        · have e2 : decide (2 < p) = false := by simpa using h2
          have Fin : Hid (askE p l = 0) := by unfold Hid askE pgB; rw [hno'.out, e1, e2]; rfl
          clear h1 h2
          go_wp2
          go_ret
          exact ⟨ret_int Fin.out.symm, rfl⟩

def byt (b : UInt8) : Value := .int .u8 (b.toNat : Int)
def bytesC (l : List UInt8) : List Value := l.map byt
def RdB (w : World) (A : Option Addr) (n c : Nat) (l : List UInt8) : Prop := Rd w 1 A n c (bytesC l)
theorem RdB.len {w : World} {A : Option Addr} {n c : Nat} {l : List UInt8} (h : RdB w A n c l) : l.length = n := by have := h.1; simpa [bytesC] using this
theorem RdB.ext {w w' : World} {A : Option Addr} {n c : Nat} {l : List UInt8} (h : RdB w A n c l) (hb : Ext w w') : RdB w' A n c l := Rd.ext h hb
def bOf (x : Int) : UInt8 := UInt8.ofNat x.toNat
theorem bOf_val (x : Int) (h0 : 0 ≤ x) (h1 : x ≤ 255) : ((bOf x).toNat : Int) = x := by
  unfold bOf
  rw [UInt8.toNat_ofNat']
  omega
def bth (l : List UInt8) (k : Nat) : Int := ((l.getD k 0).toNat : Int)
theorem bth_in (l : List UInt8) (k : Nat) : 0 ≤ bth l k ∧ bth l k ≤ 255 := by unfold bth; have := (l.getD k 0).toNat_lt; omega
/-- Bytes as a string (closed to simp). -/
def strB (l : List UInt8) : ByteArray := ⟨l.toArray⟩
theorem strB_toList (l : List UInt8) : (strB l).toList = l := by rw [ByteArray.toList_eq]; rfl
/-- Block g holds the bytes l, and they may be written. -/
def Bk (w : World) (g n : Nat) (l : List UInt8) : Prop := l.length = n ∧ ∀ j, j < n → w.cell? ⟨g, j, none⟩ = some (.int .u8 (bth l j)) ∧ w.frozen? ⟨g, j, none⟩ = false
theorem Bk.ext {w w' : World} {g n : Nat} {l : List UInt8} (h : Bk w g n l) (hb : Ext w w') : Bk w' g n l := ⟨h.1, fun j hj => ⟨hb.cell (h.2 j hj).1, by rw [hb.frozen (World.block_lt_of_cell? w _ (h.2 j hj).1)]; exact (h.2 j hj).2⟩⟩
theorem Bk.set {w : World} {g n : Nat} {l : List UInt8} (h : Bk w g n l) {k : Nat} (hk : k < n) (x : Int) (h0 : 0 ≤ x) (h1 : x ≤ 255) : Bk (w.setCell ⟨g, k, none⟩ (.int .u8 x)) g n (l.set k (bOf x)) := by
  refine ⟨by rw [List.length_set]; exact h.1, fun j hj => ⟨?_, by rw [World.frozen?_setCell]; exact (h.2 j hj).2⟩⟩
  have hl := h.1
  by_cases e : j = k
  · subst e
    rw [World.cell?_setCell_same _ _ _ (h.2 j hj).1]
    simp [bth, List.getD, hl, hj, bOf_val x h0 h1]
  · rw [World.cell?_setCell_other _ _ _ _ (by intro e'; injection e' with _ e' _; exact e e'.symm), (h.2 j hj).1]
    simp [bth, List.getD, List.getElem?_set, Ne.symm e]
theorem Bk.rd {w : World} {g n c : Nat} {l : List UInt8} (h : Bk w g n l) (hc : n ≤ c) (hm : c ≤ maxLen) : RdB w (some ⟨g, 0, none⟩) n c l := by
  refine ⟨by simp [bytesC]; exact h.1, hc, hm, fun _ => ⟨_, rfl, fun j u hu => ?_⟩⟩
  have hj : j < n := by have := (List.getElem?_eq_some_iff.1 hu).1; simp [bytesC] at this; have := h.1; omega
  have hadd : (⟨g, 0, none⟩ : Addr).add j = ⟨g, j, none⟩ := by unfold Addr.add; split <;> simp_all
  have hl := h.1
  rw [hadd, (h.2 j hj).1, ← hu]
  simp [bytesC, byt, bth, List.getD, hl, hj]
def capB (w : World) (s : ByteArray) : Nat := grownCap w s.size 0 5
def newB (w : World) (s : ByteArray) : World := w.drew.alloc (.cells (bytesRow s (capB w s)) 5 ((bytesRow s (capB w s)).size, (bytesRow s (capB w s)).size + 1))
theorem conv_new (w : World) (s : ByteArray) : (convert 9 49 (.string s)).run Tryd.prog w = .ok (.slice (some ⟨w.heap.size, 0, none⟩) s.size (capB w s)) (newB w s) :=
  run_bytes_of_string w 9 49 5 s Tryd.underlying9 Tryd.underlying49 Tryd.underlying5
theorem newB_ext (w : World) (s : ByteArray) : Ext w (newB w s) := Ext.alloc_right ((Ext.refl w).drew_right) _
theorem capB_in (w : World) (s : ByteArray) (h : s.size ≤ 1000000) : s.size ≤ capB w s ∧ capB w s ≤ maxLen := ⟨grownCap_ge _ _ _ _, grownCap_le_maxLen _ _ _ _ (by unfold maxLen; omega)⟩
theorem newB_bk (w : World) (s : ByteArray) : Bk (newB w s) w.heap.size s.size s.toList := by
  have hb : (newB w s).heap[w.heap.size]? = some (.cells (bytesRow s (capB w s)) 5 ((bytesRow s (capB w s)).size, (bytesRow s (capB w s)).size + 1)) := heap_alloc_new w.drew _
  have hc := grownCap_ge w s.size 0 5
  have hsz : s.toList.length = s.size := by rw [ByteArray.toList_eq]; rfl
  have hrow : s.size ≤ (bytesRow s (capB w s)).size := by unfold bytesRow; rw [Array.size_append, Array.size_map]; exact Nat.le_add_right _ _
  refine ⟨hsz, fun j hj => ⟨?_, ?_⟩⟩
  · rw [cell_of_row _ w.heap.size j _ 5 _ hb]
    have hj' : j < s.data.size := hj
    unfold bytesRow
    rw [Array.getElem?_append_left (by rw [Array.size_map]; exact hj'), Array.getElem?_map]
    simp [bth, List.getD, ByteArray.toList_eq]
    have hd : s.data[j]? = some s.data[j] := by simp [hj']
    exact ⟨s.data[j], hd, by rw [hd]; rfl⟩
  · unfold World.frozen?
    rw [hb]
    simp
    intro h
    omega
attribute [local go_sem] conv_new
theorem conv_RdB {w : World} {A : Option Addr} {n c : Nat} {l : List UInt8} (h : RdB w A n c l) : (convert 49 9 (.slice A n c)).run Tryd.prog w = .ok (.string (strB l)) w := by
  have hl := h.len
  rcases A with _ | ad
  · have h0 : n = 0 := by
      rcases Nat.eq_zero_or_pos n with h0 | h0
      · exact h0
      · obtain ⟨ad, e, _⟩ := h.2.2.2 h0
        cases e
    subst h0
    have : l = [] := List.eq_nil_of_length_eq_zero hl
    subst this
    exact run_convert_bytes_nil w 49 5 Tryd.underlying49 Tryd.underlying5 0 c 9 Tryd.underlying9
  · subst hl
    exact run_convert_bytes_back w 49 9 5 ad c l Tryd.underlying49 Tryd.underlying5 Tryd.underlying9 (fun j hj => by
      obtain ⟨ad', e, hc⟩ := h.2.2.2 (by omega)
      injection e with e
      subst e
      refine hc j _ ?_
      simp [bytesC, byt, hj])
/-- The first k bytes turned by f. -/
def mpTo (f : Int → Int) (l : List UInt8) (k : Nat) : List UInt8 := (l.take k).map (fun b => bOf (f (b.toNat : Int))) ++ l.drop k
theorem mpTo_at (f : Int → Int) (l : List UInt8) (k : Nat) (hk : k < l.length) : bth (mpTo f l k) k = bth l k := by
  simp [mpTo, bth, List.getD, List.getElem?_append_right, Nat.min_eq_left (Nat.le_of_lt hk)]
theorem mpTo_succ (f : Int → Int) (l : List UInt8) (k : Nat) (hk : k < l.length) : (mpTo f l k).set k (bOf (f (bth l k))) = mpTo f l (k + 1) := by
  unfold mpTo
  rw [List.set_append_right _ _ (by simp; omega), List.take_succ_eq_append_getElem hk, List.map_append]
  simp only [List.length_map, List.length_take, Nat.min_eq_left (Nat.le_of_lt hk), Nat.sub_self]
  rw [List.drop_eq_getElem_cons hk, List.set_cons_zero, List.append_assoc]
  simp [bth, List.getD, hk]
def mapS (f : Int → Int) (s : ByteArray) : ByteArray := strB (s.toList.map fun b => bOf (f (b.toNat : Int)))
theorem mpTo_all (f : Int → Int) (l : List UInt8) : mpTo f l l.length = l.map fun b => bOf (f (b.toNat : Int)) := by simp [mpTo]

theorem plain_rng {x : Int} (h0 : 0 ≤ x) (h255 : x ≤ 255) : 0 ≤ plainS x ∧ plainS x ≤ 255 := by
  unfold plainS
  repeat' split
  all_goals omega
theorem weight_rng {x p c : Int} (hp : Pg p) (h0 : 0 ≤ x) (h255 : x ≤ 255) : 0 ≤ weightS x p c ∧ weightS x p c ≤ 255 := by
  have hu := upS_rng (p := p) h0 h255
  have hq := plain_rng hu.1 hu.2
  unfold weightS
  repeat' split
  all_goals omega

set_option maxRecDepth 100000 in
set_option maxHeartbeats 1000000 in
theorem weights_any (s : ByteArray) (p c : Int) (hp : Pg p) (hsz : s.size ≤ 1000000) (w : World) :
    Calls Tryd.prog 99 #[.string s, .int .i64 p, .int .i64 c] w fun e w' => e = .returned (.string (mapS (fun x => weightS x p c) s)) ∧ Ext w w' := by
  have hcap := capB_in w s hsz
  have hB := hid (newB_bk w s)
  have hE := hid (newB_ext w s)
  have hlen : Hid (s.toList.length = s.size) := hB.out.1
  have hg : w.heap.size < (newB w s).heap.size := by simp [newB]
  have hfin := hid (mpTo_all (fun x => weightS x p c) s.toList)
  go_enter Tryd.func99, Tryd.ntmps99
  go_wp2_with fail
  go_loopw [14] (fun i wr => ∃ k : Nat, k ≤ s.size ∧ i = .int .i64 k ∧ Hid (Bk wr w.heap.size s.size (mpTo (fun x => weightS x p c) s.toList k)) ∧ Hid (Ext w wr)) (fun i _ => s.size - (intOf i).toNat)
  case atStart => exact ⟨0, by omega, rfl, hB, hE⟩
  case round =>
    obtain ⟨k, hk, rfl, hb, hx⟩ := hrel
    by_cases hlt : k < s.size
    · have hlt' : k < s.toList.length := by rw [hlen.out]; exact hlt
      have hc := (hb.out.2 k hlt).1
      have hfree := (hb.out.2 k hlt).2
      rw [mpTo_at _ _ k hlt'] at hc
      have hr := bth_in s.toList k
      have hst := hid (mpTo_succ (fun x => weightS x p c) s.toList k hlt')
      clear hlt'
      go_wp2_with fail
      refine (weight_any _ _ _ hp _ hr.1 hr.2).mono ?_
      rintro e w' ⟨rfl, rfl⟩
      have hw := weight_rng (c := c) hp hr.1 hr.2
      have hb2 := hid (hb.out.set hlt (weightS (bth s.toList k) p c) hw.1 hw.2)
      have hx2 := hid (hx.out.set (p := ⟨w.heap.size, k, none⟩) (Nat.le_refl _) (.int .u8 (weightS (bth s.toList k) p c)))
      go_wp2
      go_roundw
      case rel => exact ⟨k + 1, by omega, by go_num, by rw [← hst.out]; exact hb2, hx2⟩
      case measure => simp [intOf]; omega
    · obtain rfl : k = s.size := by omega
      have hrd := hb.out.rd hcap.1 hcap.2
      have hcv := conv_RdB hrd
      rw [← hlen.out, hfin.out] at hcv
      rw [hlen.out] at hcv
      have hmap : strB (s.toList.map fun b => bOf (weightS (b.toNat : Int) p c)) = mapS (fun x => weightS x p c) s := rfl
      rw [hmap] at hcv
      clear hmap hrd
      go_wp2
      go_ret
      exact ⟨rfl, hx.out⟩
attribute [local go_sem] conv_new

def GiveSN (s : ByteArray) (x : Int) (w : World) (e : Ending) (w' : World) : Prop := e = .returned (.tuple #[.string s, .int .i64 x]) ∧ Ext w w'
theorem ask_ok {p : Int} {s : ByteArray} (h : askE p [s] = 0) : s.size ≤ 2048 ∧ Pg p := by
  unfold askE at h
  split at h
  · cases h
  · rename_i h1
    split at h
    · cases h
    · rename_i h2
      refine ⟨?_, ?_⟩
      · have : ¬ 2048 < s.size := by
          intro h3
          exact h1 (by simp [longTo, h3])
        omega
      · unfold Pg
        simp [pgB] at h2
        omega
def okA (p : Int) (s : ByteArray) (t : ByteArray) : ByteArray := if askE p [s] = 0 then t else ByteArray.empty
theorem enterUpper (args : Array Value) (w : World) : (callFunc 121 args).run Tryd.prog w = .ok (.enter 121 args) w := by kernel_rfl

def digS (x : Int) : Int :=
  if x == 66 || x == 70 || x == 80 || x == 86 then 1 else if x == 67 || x == 71 || x == 74 || x == 75 || x == 81 || x == 83 || x == 88 || x == 90 then 2
  else if x == 68 || x == 84 then 3 else if x == 76 then 4 else if x == 77 || x == 78 then 5 else if x == 82 then 6 else if x == 72 || x == 87 then -1 else 0
def askC (p c : Int) (l : List ByteArray) : Int := if askE p l = 0 then (if c < 0 ∨ 1 < c then 1 else 0) else askE p l
set_option maxRecDepth 100000 in
set_option maxHeartbeats 2000000 in
theorem askedColl_any (p c : Int) (A : Option Addr) (n cp : Nat) (l : List ByteArray) (w : World) (hs : RdS w A n cp l) :
    Calls Tryd.prog 98 #[.int .i64 p, .int .i64 c, .slice A n cp] w fun e w' => e = .returned (.int .i64 (askC p c l)) ∧ w = w' := by
  by_cases h : askE p l = 0
  · have e1 : (askE p l != 0) = false := by simp [h]
    by_cases h1 : c < 0
    · have d1 : decide (c < 0) = true := by simpa using h1
      have Fin : Hid (askC p c l = 1) := by unfold Hid askC; rw [if_pos h, if_pos (Or.inl h1)]
      clear h h1
      go_enter Tryd.func98, Tryd.ntmps98
      go_wp2_with fail
      refine (asked_any p _ _ _ _ _ hs).mono ?_
      rintro e w1 ⟨rfl, rfl⟩
      go_wp2
      go_ret
      exact ⟨ret_int Fin.out.symm, rfl⟩
    · have d1 : decide (c < 0) = false := by simpa using h1
      by_cases h2 : 1 < c
      · have d2 : decide (1 < c) = true := by simpa using h2
        have Fin : Hid (askC p c l = 1) := by unfold Hid askC; rw [if_pos h, if_pos (Or.inr h2)]
        clear h h1 h2
        go_enter Tryd.func98, Tryd.ntmps98
        go_wp2_with fail
        refine (asked_any p _ _ _ _ _ hs).mono ?_
        rintro e w1 ⟨rfl, rfl⟩
        go_wp2
        go_ret
        exact ⟨ret_int Fin.out.symm, rfl⟩
      · have d2 : decide (1 < c) = false := by simpa using h2
        have Fin : Hid (askC p c l = 0) := by unfold Hid askC; rw [if_pos h, if_neg (by omega)]
        clear h h1 h2
        go_enter Tryd.func98, Tryd.ntmps98
        go_wp2_with fail
        refine (asked_any p _ _ _ _ _ hs).mono ?_
        rintro e w1 ⟨rfl, rfl⟩
        go_wp2
        go_ret
        exact ⟨ret_int Fin.out.symm, rfl⟩
  · have e1 : (askE p l != 0) = true := by simp [h]
    have Fin : Hid (askC p c l = askE p l) := by unfold Hid askC; rw [if_neg h]
    clear h
    go_enter Tryd.func98, Tryd.ntmps98
    go_wp2_with fail
    refine (asked_any p _ _ _ _ _ hs).mono ?_
    rintro e w1 ⟨rfl, rfl⟩
    go_wp2
    go_ret
    exact ⟨ret_int Fin.out.symm, rfl⟩
theorem askC_ok {p c : Int} {l : List ByteArray} (h : askC p c l = 0) : askE p l = 0 ∧ 0 ≤ c ∧ c ≤ 1 := by
  unfold askC at h
  split at h
  · rename_i h1
    split at h
    · cases h
    · exact ⟨h1, by omega, by omega⟩
  · rename_i h1; exact absurd h h1
def okC (p c : Int) (l : List ByteArray) (t : ByteArray) : ByteArray := if askC p c l = 0 then t else ByteArray.empty
set_option maxRecDepth 100000 in
set_option maxHeartbeats 2000000 in
theorem Weights_any (s : ByteArray) (p c : Int) (w : World) : Calls Tryd.prog 85 #[.string s, .int .i64 p, .int .i64 c] w (GiveSN (okC p c [s] (mapS (fun x => weightS x p c) s)) (askC p c [s]) w) := by
  by_cases h : askC p c [s] = 0
  · have e1 : (askC p c [s] != 0) = false := by simp [h]
    have Fin : Hid (okC p c [s] (mapS (fun x => weightS x p c) s) = mapS (fun x => weightS x p c) s) := by unfold Hid okC; rw [if_pos h]
    have Fin2 := hid h
    have ho := ask_ok (askC_ok h).1
    clear h
    go_enter Tryd.func85, Tryd.ntmps85
    go_wp2_with fail
    refine (askedColl_any p c _ _ _ [s] _ (RdS.new1 w s _)).mono ?_
    rintro e w1 ⟨rfl, rfl⟩
    go_wp2_with fail
    refine (weights_any s p c ho.2 (by omega) _).mono ?_
    rintro e w2 ⟨rfl, hx⟩
    go_wp2
    go_ret2
    exact ⟨by rw [Fin.out, Fin2.out]; rfl, Ext.trans ((Ext.refl w).alloc_right _) hx⟩
  · have e1 : (askC p c [s] != 0) = true := by simp [h]
    have Fin : Hid (okC p c [s] (mapS (fun x => weightS x p c) s) = ByteArray.empty) := by unfold Hid okC; rw [if_neg h]
    clear h
    go_enter Tryd.func85, Tryd.ntmps85
    go_wp2_with fail
    refine (askedColl_any p c _ _ _ [s] _ (RdS.new1 w s _)).mono ?_
    rintro e w1 ⟨rfl, rfl⟩
    go_wp2
    go_ret2
    exact ⟨by rw [Fin.out]; rfl, (Ext.refl w).alloc_right _⟩
attribute [local go_sem] conv_new

theorem u8_in (x : Int) (h0 : 0 ≤ x) (h1 : x ≤ 255) : IntKind.u8.wrap x = x := by simp [IntKind.wrap, IntKind.bits, IntKind.signed]; omega
theorem byt_of (x : Int) (h0 : 0 ≤ x) (h1 : x ≤ 255) : Value.int .u8 x = byt (bOf x) := by unfold byt; rw [bOf_val x h0 h1]
theorem bytesC_snoc (l : List UInt8) (x : Int) (h0 : 0 ≤ x) (h1 : x ≤ 255) : bytesC (l ++ [bOf x]) = bytesC l ++ [.int .u8 x] := by rw [byt_of x h0 h1]; simp [bytesC]
theorem digS_in (x : Int) : -1 ≤ digS x ∧ digS x ≤ 6 := by
  unfold digS
  repeat' split
  all_goals omega
/-- One byte more: the code so far, its last digit. -/
def sStep (c : List UInt8) (last x : Int) : List UInt8 × Int :=
  if isLetS x 0 = false then (c, last) else
  if c.length = 0 then ([bOf (upS_ x 0)], if digS (upS_ x 0) < 0 then 0 else digS (upS_ x 0)) else
  if digS (upS_ x 0) < 0 then (c, last) else
  (if 0 < digS (upS_ x 0) ∧ digS (upS_ x 0) ≠ last ∧ c.length < 4 then c ++ [bOf (48 + digS (upS_ x 0))] else c, digS (upS_ x 0))
def sTo (l : List UInt8) : Nat → List UInt8 × Int
  | 0 => ([], 0)
  | k + 1 => sStep (sTo l k).1 (sTo l k).2 (bth l k)
theorem sTo_succ (l : List UInt8) (k : Nat) : sTo l (k + 1) = sStep (sTo l k).1 (sTo l k).2 (bth l k) := rfl
def padS (c : List UInt8) : List UInt8 := if c.length = 0 then c else c ++ List.replicate (4 - c.length) (bOf 48)
def soundB (s : ByteArray) : ByteArray := strB (padS (sTo s.toList s.size).1)
theorem pad_more (c : List UInt8) (h0 : 0 < c.length) (h4 : c.length < 4) : padS (c ++ [bOf 48]) = padS c := by
  unfold padS
  rw [if_neg (by simp), if_neg (by omega), List.append_assoc]
  congr 1
  rw [show 4 - c.length = (4 - (c ++ [bOf 48]).length) + 1 by simp; omega, List.replicate_succ]
  rfl
theorem pad_done (c : List UInt8) (h : ¬ (0 < c.length ∧ c.length < 4)) : padS c = c := by
  unfold padS
  split
  · rfl
  · rw [show 4 - c.length = 0 by omega]; simp


theorem mapS_eq (f : Int → Int) (s : ByteArray) : mapS f s = strB (s.data.toList.map fun b => bOf (f (b.toNat : Int))) := by unfold mapS; rw [ByteArray.toList_eq]
theorem soundB_eq (s : ByteArray) : soundB s = strB (padS (sTo s.data.toList s.size).1) := by unfold soundB; rw [ByteArray.toList_eq]
theorem known3 (w : World) : Calls Tryd.prog 85 #[.string { data := #[233] }, .int .i64 1, .int .i64 1] w (GiveSN { data := #[69] } 0 w) := by
  have h := Weights_any { data := #[233] } 1 1 w
  have ha : askC 1 1 [{ data := #[233] }] = 0 := by decide
  rw [okC, if_pos ha, ha, mapS_eq] at h
  exact h
def byS (x p : Int) : Int := if isCapS x p then (if p = 2 ∧ 144 ≤ x then 80 else 32) else if isSmallA x p then 32 else if isSmallB x p then 80 else 0
theorem ret_3 {a a' b b' : Bool} {x y : Int} (h1 : a = a') (h2 : b = b') (h3 : x = y) : Ending.returned (.tuple #[.bool a, .bool b, .int .u8 x]) = .returned (.tuple #[.bool a', .bool b', .int .u8 y]) := by rw [h1, h2, h3]
set_option maxRecDepth 100000 in
set_option maxHeartbeats 8000000 in
theorem pair_any (x p : Int) (hp : Pg p) (w : World) (h0 : 0 ≤ x) (h255 : x ≤ 255) : Calls Tryd.prog 97 #[.int .u8 x, .int .i64 p] w fun e w' => e = .returned (.tuple #[.bool (isCapS x p), .bool (isSmallS x p), .int .u8 (byS x p)]) ∧ w = w' := by
  rcases hp with rfl | rfl | rfl
  · go_enter Tryd.func97, Tryd.ntmps97
    go_wp2
    all_goals go_ret3
    all_goals refine ⟨ret_3 ?_ ?_ ?_, rfl⟩
    all_goals simp_all [isCapS, isSmallS, isSmallA, isSmallB, withinB, byS]
    all_goals omega
  · go_enter Tryd.func97, Tryd.ntmps97
    go_wp2
    all_goals go_ret3
    all_goals refine ⟨ret_3 ?_ ?_ ?_, rfl⟩
    all_goals simp_all [isCapS, isSmallS, isSmallA, isSmallB, withinB, byS]
    all_goals omega
  · go_enter Tryd.func97, Tryd.ntmps97
    go_wp2
    all_goals go_ret3
    all_goals refine ⟨ret_3 ?_ ?_ ?_, rfl⟩
    all_goals simp_all [isCapS, isSmallS, isSmallA, isSmallB, withinB, byS]
    all_goals omega
theorem by_small {x p : Int} (hp : Pg p) (h : isSmallS x p = true) : x - byS x p = upS_ x p ∧ byS x p ≤ x := by
  rcases hp with rfl | rfl | rfl <;> simp [isSmallS, isSmallA, isSmallB, withinB] at h <;> unfold byS upS_ <;> simp [isCapS, isSmallA, isSmallB, withinB] <;> (repeat' split) <;> omega
theorem not_small {x p : Int} (h : isSmallS x p = false) : upS_ x p = x := by
  simp only [isSmallS, Bool.or_eq_false_iff] at h
  simp [upS_, h.1, h.2]
theorem by_cap {x p : Int} (hp : Pg p) (h : isCapS x p = true) : x + byS x p = lowS x p ∧ x + byS x p ≤ 255 := by
  rcases hp with rfl | rfl | rfl <;> simp [isCapS, withinB] at h <;> unfold byS lowS <;> simp [isCapS, isSmallA, isSmallB, withinB] <;> (repeat' split) <;> omega
theorem not_cap {x p : Int} (h : isCapS x p = false) : lowS x p = x := by simp [lowS, h]
set_option maxRecDepth 100000 in
set_option maxHeartbeats 2000000 in
theorem rIsLetter_any (x p : Int) (hp : Pg p) (w : World) (h0 : 0 ≤ x) (h255 : x ≤ 255) : Calls Tryd.prog 83 #[.int .u8 x, .int .i64 p] w fun e w' => e = .returned (.bool (isLetS x p)) ∧ w = w' := by
  have Fin : Hid ((isCapS x p || isSmallS x p) = isLetS x p) := by unfold Hid isLetS; rw [Bool.or_comm]
  rcases Bool.eq_false_or_eq_true (isCapS x p) with h1 | h1 <;> rcases Bool.eq_false_or_eq_true (isSmallS x p) with h2 | h2
  all_goals
    go_enter Tryd.func83, Tryd.ntmps83
    go_wp2_with fail
    refine (pair_any _ _ hp _ h0 h255).mono ?_
    rintro e w' ⟨rfl, rfl⟩
    go_wp2
    go_ret
    exact ⟨ret_bool (by rw [← Fin.out, h1, h2]; rfl), rfl⟩
set_option maxRecDepth 100000 in
set_option maxHeartbeats 2000000 in
theorem rupper_any (x p : Int) (hp : Pg p) (w : World) (h0 : 0 ≤ x) (h255 : x ≤ 255) : Calls Tryd.prog 84 #[.int .u8 x, .int .i64 p] w fun e w' => e = .returned (.int .u8 (upS_ x p)) ∧ w = w' := by
  rcases Bool.eq_false_or_eq_true (isSmallS x p) with h | h
  · have hb := by_small hp h
    have hb1 := hid hb.1
    have hu := upS_rng (p := p) h0 h255
    have ew : IntKind.u8.wrap (x - byS x p) = x - byS x p := u8_in _ (by omega) (by omega)
    clear hb
    go_enter Tryd.func84, Tryd.ntmps84
    go_wp2_with fail
    refine (pair_any _ _ hp _ h0 h255).mono ?_
    rintro e w' ⟨rfl, rfl⟩
    go_wp2
    go_ret
    exact ⟨ret_int hb1.out, rfl⟩
  · have hb1 := hid (not_small h)
    go_enter Tryd.func84, Tryd.ntmps84
    go_wp2_with fail
    refine (pair_any _ _ hp _ h0 h255).mono ?_
    rintro e w' ⟨rfl, rfl⟩
    go_wp2
    go_ret
    exact ⟨ret_int hb1.out.symm, rfl⟩
def dl : List ByteArray := [{ data := #[] }, { data := #[66, 70, 80, 86] }, { data := #[67, 71, 74, 75, 81, 83, 88, 90] }, { data := #[68, 84] }, { data := #[76] }, { data := #[77, 78] }, { data := #[82] }]
def noIn (x : Int) (s : ByteArray) (j : Nat) : Bool := (s.data.toList.take j).all fun b => decide ((b.toNat : Int) ≠ x)
def noTo (x : Int) (k : Nat) : Bool := (dl.take k).all fun s => noIn x s s.size
theorem noIn_succ (x : Int) (s : ByteArray) (j : Nat) (hj : j < s.size) (h : noIn x s j = true) (hx : ((s[j].toNat : Int) == x) = false) : noIn x s (j + 1) = true := by
  have hj' : j < s.data.toList.length := hj
  unfold noIn at *
  rw [List.take_succ_eq_append_getElem hj', List.all_append, h]
  have hx0 : (s[j].toNat : Int) ≠ x := by simpa using hx
  have hx' : ((s.data.toList[j]'hj').toNat : Int) ≠ x := hx0
  simp only [List.all_cons, List.all_nil, Bool.and_true, Bool.true_and, decide_eq_true_eq]
  exact hx'
theorem noTo_succ (x : Int) (k : Nat) (hk : k < 7) (h : noTo x k = true) (h2 : noIn x (sth dl k) (sth dl k).size = true) : noTo x (k + 1) = true := by
  have hk' : k < dl.length := hk
  unfold noTo at *
  rw [List.take_succ_eq_append_getElem hk', List.all_append, h]
  have e : sth dl k = dl[k] := by simp [sth, List.getD, hk']
  rw [e] at h2
  simp [h2]
theorem hit_all : ∀ k : Fin 7, ∀ j : Fin (sth dl k.val).size, digS (((sth dl k.val)[j.val]'j.isLt).toNat : Int) = (k.val : Int) := by decide +kernel
theorem none_all : ∀ x : Fin 256, noTo (x.val : Int) 7 = true → digS (x.val : Int) = if (x.val : Int) == 72 || (x.val : Int) == 87 then -1 else 0 := by decide +kernel
theorem strB_size (l : List UInt8) : (strB l).size = l.length := by simp [strB, ByteArray.size]
theorem strB_add (a b : List UInt8) : strB a ++ strB b = strB (a ++ b) := by
  apply ByteArray.ext
  simp [strB]
theorem conv_one (w : World) (x : Int) (h0 : 0 ≤ x) (h1 : x ≤ 255) : (convert 49 9 (.slice (some ⟨w.heap.size, 0, none⟩) 1 1)).run Tryd.prog (w.alloc (.cells #[.int .u8 x] 5)) = .ok (.string (strB [bOf x])) (w.alloc (.cells #[.int .u8 x] 5)) := by
  have h : RdB (w.alloc (.cells #[.int .u8 x] 5)) (some ⟨w.heap.size, 0, none⟩) 1 1 [bOf x] := by
    have := Rd.new_ w [.int .u8 x] 5 1 rfl (by decide)
    rw [byt_of x h0 h1] at this ⊢
    exact this
  exact conv_RdB h
def sizeOf' : Value → Nat | .string s => s.size | _ => 0
theorem ask0 (s : ByteArray) : askE 0 [s] = if 2048 < s.size then 3 else 0 := by
  unfold askE
  have : longTo [s] 1 = decide (2048 < s.size) := by simp [longTo]
  rw [show [s].length = 1 from rfl, this]
  by_cases h : 2048 < s.size <;> simp [h, pgB]
/-- One of the first k texts is longer than m. -/
def bigTo (m : Int) (l : List ByteArray) (k : Nat) : Bool := (l.take k).any fun s => decide (m < (s.size : Int))
theorem bigTo_succ (m : Int) (l : List ByteArray) (k : Nat) (hk : k < l.length) : bigTo m l (k + 1) = (bigTo m l k || decide (m < ((sth l k).size : Int))) := by
  unfold bigTo
  rw [List.take_succ_eq_append_getElem hk, List.any_append, show sth l k = l[k] by simp [sth, List.getD, hk]]
  simp only [List.any_cons, List.any_nil, Bool.or_false]
theorem big_of (m : Int) (l : List ByteArray) (k : Nat) (hk : k < l.length) (h : m < ((sth l k).size : Int)) : bigTo m l l.length = true := by
  unfold bigTo
  rw [List.take_length, List.any_eq_true]
  exact ⟨sth l k, by simp [sth, List.getD, hk], by simpa using h⟩
def pgTo (l : List Int) (k : Nat) : Bool := (l.take k).any pgB
theorem pgTo_succ (l : List Int) (k : Nat) (hk : k < l.length) : pgTo l (k + 1) = (pgTo l k || pgB (nth l k)) := by
  unfold pgTo
  rw [List.take_succ_eq_append_getElem hk, List.any_append, nth_lt hk]
  simp only [List.any_cons, List.any_nil, Bool.or_false]
theorem pg_of (l : List Int) (k : Nat) (hk : k < l.length) (h : pgB (nth l k) = true) : pgTo l l.length = true := by
  unfold pgTo
  rw [List.take_length, List.any_eq_true]
  exact ⟨nth l k, by rw [nth_lt hk]; simp, h⟩
def askR (m : Int) (l : List ByteArray) (c : Int) (ps : List Int) : Int :=
  if bigTo m l l.length then 3 else if pgTo ps ps.length then 1 else if c ≠ 0 ∧ c ≠ 1 then 1 else 0
set_option maxRecDepth 100000 in
set_option maxHeartbeats 2000000 in
theorem rasked_any (m : Int) (A : Option Addr) (n cp : Nat) (l : List ByteArray) (c : Int) (B : Option Addr) (n2 c2 : Nat) (ps : List Int) (w : World) (hs : RdS w A n cp l) (hp : RdI w B n2 c2 ps) :
    Calls Tryd.prog 59 #[.int .i64 m, .slice A n cp, .int .i64 c, .slice B n2 c2] w fun e w' => e = .returned (.int .i64 (askR m l c ps)) ∧ w = w' := by
  have Hl := hid hs.len
  have Hp := hid hp.len
  have hm := hs.max
  have hm2 := hp.max
  go_enter Tryd.func59, Tryd.ntmps59
  go_wp2_with fail
  go_loopw [9] (fun i wr => (∃ k : Nat, k ≤ n ∧ i = .int .i64 k ∧ Hid (bigTo m l k = false)) ∧ wr = w) (fun i _ => n - (intOf i).toNat)
  case atStart => exact ⟨⟨0, by omega, rfl, (rfl : bigTo m l 0 = false)⟩, rfl⟩
  case round =>
    obtain ⟨⟨k, hk, rfl, hno⟩, rfl⟩ := hrel
    by_cases hlt : k < n
    · obtain ⟨ad, rfl, hc⟩ := hs.at_ hlt
      have hlt' : k < l.length := by rw [Hl.out]; exact hlt
      by_cases hbig : m < ((sth l k).size : Int)
      · have Fin : Hid (askR m l c ps = 3) := by unfold Hid askR; rw [big_of m l k hlt' hbig]; rfl
        have e1 : decide (m < ((sth l k).size : Int)) = true := by simpa using hbig
        clear hlt' hbig
        go_wp2
        go_ret
        exact ⟨ret_int Fin.out.symm, rfl⟩
      · have e1 : decide (m < ((sth l k).size : Int)) = false := by simpa using hbig
        have hn2 : Hid (bigTo m l (k + 1) = false) := by unfold Hid; rw [bigTo_succ m l k hlt', hno.out, e1]; rfl
        clear hlt' hbig
        go_wp2
        go_roundw
        case rel => exact ⟨⟨k + 1, by omega, by go_num, hn2⟩, by trivial⟩
        case measure => simp [intOf]; omega
    · have hno' : Hid (bigTo m l l.length = false) := by
        have e : k = l.length := by rw [Hl.out]; omega
        rw [← e]; exact hno
      go_wp2_with fail
      go_loopw [10] (fun i wq => (∃ k : Nat, k ≤ n2 ∧ i = .int .i64 k ∧ Hid (pgTo ps k = false)) ∧ wq = wr) (fun i _ => n2 - (intOf i).toNat)
      case atStart => exact ⟨⟨0, by omega, rfl, (rfl : pgTo ps 0 = false)⟩, rfl⟩
      case round =>
        obtain ⟨⟨j, hj, rfl, hno2⟩, rfl⟩ := hrel
        by_cases hlj : j < n2
        · obtain ⟨ad, rfl, hc⟩ := hp.at_ hlj
          have hlj' : j < ps.length := by rw [Hp.out]; exact hlj
          rcases Bool.eq_false_or_eq_true (pgB (nth ps j)) with hb | hb
          · have Fin : Hid (askR m l c ps = 1) := by unfold Hid askR; rw [hno'.out, pg_of ps j hlj' hb]; rfl
            have hb' := hid hb
            clear hlj' hb
            rcases Bool.eq_false_or_eq_true (decide (nth ps j < 0)) with d1 | d1 <;> rcases Bool.eq_false_or_eq_true (decide (2 < nth ps j)) with d2 | d2 <;> (first | (exfalso; have := hb'.out; simp only [pgB, d1, d2] at this; cases this; done) | skip)
            all_goals go_wp2
            all_goals go_ret
            all_goals exact ⟨ret_int Fin.out.symm, rfl⟩
          · have hn2 : Hid (pgTo ps (j + 1) = false) := by unfold Hid; rw [pgTo_succ ps j hlj', hno2.out, hb]; rfl
            have d1 : decide (nth ps j < 0) = false := by simp only [pgB, Bool.or_eq_false_iff] at hb; exact hb.1
            have d2 : decide (2 < nth ps j) = false := by simp only [pgB, Bool.or_eq_false_iff] at hb; exact hb.2
            clear hlj' hb
            go_wp2
            go_roundw
            case rel => exact ⟨⟨j + 1, by omega, by go_num, hn2⟩, by trivial⟩
            case measure => simp [intOf]; omega
        · have hno2' : Hid (pgTo ps ps.length = false) := by
            have e : j = ps.length := by rw [Hp.out]; omega
            rw [← e]; exact hno2
          by_cases hc0 : c = 0
          · subst hc0
            have Fin : Hid (askR m l 0 ps = 0) := by unfold Hid askR; rw [hno'.out, hno2'.out]; rfl
            go_wp2
            go_ret
            exact ⟨ret_int Fin.out.symm, rfl⟩
          · by_cases hc1 : c = 1
            · subst hc1
              have Fin : Hid (askR m l 1 ps = 0) := by unfold Hid askR; rw [hno'.out, hno2'.out]; rfl
              go_wp2
              go_ret
              exact ⟨ret_int Fin.out.symm, rfl⟩
            · have Fin : Hid (askR m l c ps = 1) := by unfold Hid askR; rw [hno'.out, hno2'.out]; simp [hc0, hc1]
              have d1 : (c != 0) = true := by simpa using hc0
              have d2 : (c != 1) = true := by simpa using hc1
              clear hc0 hc1
              go_wp2
              go_ret
              exact ⟨ret_int Fin.out.symm, rfl⟩
theorem big_long (l : List ByteArray) (k : Nat) : bigTo 2048 l k = longTo l k := by
  unfold bigTo longTo
  congr 1
  funext s
  rw [decide_eq_decide]
  omega
theorem askR_E (p : Int) (l : List ByteArray) : askR 2048 l 0 [p] = askE p l := by
  unfold askR askE
  rw [big_long]
  simp [pgTo]
theorem askR_C (p c : Int) (l : List ByteArray) : askR 2048 l c [p] = askC p c l := by
  unfold askR askC askE
  rw [big_long]
  rcases Bool.eq_false_or_eq_true (longTo l l.length) with h | h <;> rcases Bool.eq_false_or_eq_true (pgB p) with h2 | h2 <;> simp [pgTo, h, h2]
  by_cases h0 : c = 0
  · simp [h0]
  · by_cases h1 : c = 1
    · simp [h1]
    · rw [if_pos ⟨h0, h1⟩, if_pos (by omega)]
theorem RdS.alloc {w : World} {A : Option Addr} {n c : Nat} {l : List ByteArray} (h : RdS w A n c l) (o : Obj) : RdS (w.alloc o) A n c l := Rd.alloc h o
theorem RdI.new1 (w : World) (x : Int) (t : TypeId) : RdI (w.alloc (.cells #[.int .i64 x] t)) (some ⟨w.heap.size, 0, none⟩) 1 1 [x] := Rd.new_ w [.int .i64 x] t 1 rfl (by decide)
theorem RdI.new1b (w : World) (o : Obj) (x : Int) (t : TypeId) : RdI ((w.alloc o).alloc (.cells #[.int .i64 x] t)) (some ⟨w.heap.size + 1, 0, none⟩) 1 1 [x] := by
  have h := RdI.new1 (w.alloc o) x t
  rwa [show (w.alloc o).heap.size = w.heap.size + 1 by simp] at h
theorem rplain {x p c : Int} : weightS x p c = if c == 0 || !isLetS x p then x else if p == 1 then plainS (upS_ x p) else upS_ x p := rfl
set_option maxRecDepth 100000 in
set_option maxHeartbeats 4000000 in
theorem rweight_any (x p c : Int) (hp : Pg p) (w : World) (h0 : 0 ≤ x) (h255 : x ≤ 255) : Calls Tryd.prog 60 #[.int .u8 x, .int .i64 p, .int .i64 c] w fun e w' => e = .returned (.int .u8 (weightS x p c)) ∧ w = w' := by
  have hu := upS_rng (p := p) h0 h255
  rcases Bool.eq_false_or_eq_true (c == 0) with hc | hc
  · have Fin : Hid (weightS x p c = x) := by unfold Hid weightS; rw [hc]; rfl
    go_enter Tryd.func60, Tryd.ntmps60
    go_wp2_with fail
    go_ret
    exact ⟨ret_int Fin.out.symm, rfl⟩
  · rcases Bool.eq_false_or_eq_true (isLetS x p) with hl | hl
    · rcases Bool.eq_false_or_eq_true (p == 1) with h1 | h1
      · have h1' : (p != 1) = false := by simpa using h1
        have Fin : Hid (weightS x p c = plainS (upS_ x p)) := by unfold Hid weightS; rw [hc, hl, h1]; rfl
        go_enter Tryd.func60, Tryd.ntmps60
        go_wp2_with fail
        refine (rIsLetter_any _ _ hp _ h0 h255).mono ?_
        rintro e w' ⟨rfl, rfl⟩
        go_wp2_with fail
        refine (rupper_any _ _ hp _ h0 h255).mono ?_
        rintro e w' ⟨rfl, rfl⟩
        generalize upS_ x p = u at *
        go_wp2
        all_goals go_ret
        all_goals refine ⟨ret_int ?_, rfl⟩
        all_goals rw [Fin.out]; clear Fin
        all_goals simp_all [plainS, withinB]
        all_goals omega
      · have h1' : (p != 1) = true := by simpa using h1
        have Fin : Hid (weightS x p c = upS_ x p) := by unfold Hid weightS; rw [hc, hl, h1]; rfl
        go_enter Tryd.func60, Tryd.ntmps60
        go_wp2_with fail
        refine (rIsLetter_any _ _ hp _ h0 h255).mono ?_
        rintro e w' ⟨rfl, rfl⟩
        go_wp2_with fail
        refine (rupper_any _ _ hp _ h0 h255).mono ?_
        rintro e w' ⟨rfl, rfl⟩
        go_wp2
        go_ret
        exact ⟨ret_int Fin.out.symm, rfl⟩
    · have Fin : Hid (weightS x p c = x) := by unfold Hid weightS; rw [hl]; simp
      go_enter Tryd.func60, Tryd.ntmps60
      go_wp2_with fail
      refine (rIsLetter_any _ _ hp _ h0 h255).mono ?_
      rintro e w' ⟨rfl, rfl⟩
      go_wp2
      go_ret
      exact ⟨ret_int Fin.out.symm, rfl⟩
attribute [local go_sem] conv_new
theorem byte_at (s : ByteArray) {k : Nat} (hlt : k < s.size) : ((s[k]'hlt).toNat : Int) = bth s.toList k := by
  have hk' : k < s.data.size := hlt
  simp only [bth, List.getD, ByteArray.toList_eq, Array.getElem?_toList]
  rw [show s.data[k]? = some s.data[k] by simp [hk']]
  rfl

set_option maxRecDepth 100000 in
set_option maxHeartbeats 2000000 in
theorem rWeights_any (s : ByteArray) (p c : Int) (w : World) : Calls Tryd.prog 95 #[.string s, .int .i64 p, .int .i64 c] w (GiveSN (okC p c [s] (mapS (fun x => weightS x p c) s)) (askC p c [s]) w) := by
  by_cases h : askC p c [s] = 0
  · have e1 : (askC p c [s] != 0) = false := by simp [h]
    have Fin : Hid (okC p c [s] (mapS (fun x => weightS x p c) s) = mapS (fun x => weightS x p c) s) := by unfold Hid okC; rw [if_pos h]
    have Fin2 := hid h
    have ho := ask_ok (askC_ok h).1
    have hp := hid ho.2
    have hsz : s.size ≤ 1000000 := by omega
    have hlen : Hid (s.toList.length = s.size) := by unfold Hid; rw [ByteArray.toList_eq]; rfl
    have hfin := hid (mpTo_all (fun x => weightS x p c) s.toList)
    clear ho h
    go_enter Tryd.func95, Tryd.ntmps95
    go_wp2_with fail
    refine (rasked_any 2048 _ _ _ [s] c _ _ _ [p] _ (((RdS.new1 w s 9).alloc (.cells #[.int .i64 p] 3) : RdS ((w.alloc (.cells #[.string s] 9)).alloc (.cells #[.int .i64 p] 3)) _ _ _ _)) (RdI.new1b w (.cells #[.string s] 9) p 3)).mono ?_
    rintro e w1 ⟨rfl, rfl⟩
    have hx1 := hid (((Ext.refl w).alloc_right (.cells #[.string s] 9)).alloc_right (.cells #[.int .i64 p] 3))
    rw [askR_C]
    generalize hw1 : (w.alloc (.cells #[.string s] 9)).alloc (.cells #[.int .i64 p] 3) = w1 at *
    clear hw1
    have hcap := capB_in w1 s hsz
    have hB := hid (newB_bk w1 s)
    have hE := hid (newB_ext w1 s)
    have hg : w1.heap.size < (newB w1 s).heap.size := by simp [newB]
    go_wp2_with fail
    go_loopw [10] (fun i wr => ∃ k : Nat, k ≤ s.size ∧ i = .int .i64 k ∧ Hid (Bk wr w1.heap.size s.size (mpTo (fun x => weightS x p c) s.toList k)) ∧ Hid (Ext w1 wr)) (fun i _ => s.size - (intOf i).toNat)
    case atStart => exact ⟨0, by omega, rfl, hB, hE⟩
    case round =>
      obtain ⟨k, hk, rfl, hb, hx⟩ := hrel
      by_cases hlt : k < s.size
      · have hlt' : k < s.toList.length := by rw [hlen.out]; exact hlt
        have hc := (hb.out.2 k hlt).1
        have hfree := (hb.out.2 k hlt).2
        have hxe := byte_at s hlt
        have hr := bth_in s.toList k
        have hst := mpTo_succ (fun x => weightS x p c) s.toList k hlt'
        rw [← hxe] at hr hst
        clear hlt' hxe
        have hst := hid hst
        go_wp2_with fail
        refine (rweight_any _ _ _ hp.out _ hr.1 hr.2).mono ?_
        rintro e w' ⟨rfl, rfl⟩
        have hw := weight_rng (c := c) hp.out hr.1 hr.2
        have hb2 := hid (hb.out.set hlt (weightS (s[k].toNat : Int) p c) hw.1 hw.2)
        have hx2 := hid (hx.out.set (p := ⟨w1.heap.size, k, none⟩) (Nat.le_refl _) (.int .u8 (weightS (s[k].toNat : Int) p c)))
        go_wp2
        go_roundw
        case rel => exact ⟨k + 1, by omega, by go_num, by rw [← hst.out]; exact hb2, hx2⟩
        case measure => simp [intOf]; omega
      · obtain rfl : k = s.size := by omega
        have hrd := hb.out.rd hcap.1 hcap.2
        have hcv := conv_RdB hrd
        rw [← hlen.out, hfin.out] at hcv
        rw [hlen.out] at hcv
        have hmap : strB (s.toList.map fun b => bOf (weightS (b.toNat : Int) p c)) = mapS (fun x => weightS x p c) s := rfl
        rw [hmap] at hcv
        clear hmap hrd
        go_wp2
        go_ret2
        exact ⟨by rw [Fin.out, Fin2.out]; rfl, hx1.out.trans hx.out⟩
  · have e1 : (askC p c [s] != 0) = true := by simp [h]
    have Fin : Hid (okC p c [s] (mapS (fun x => weightS x p c) s) = ByteArray.empty) := by unfold Hid okC; rw [if_neg h]
    clear h
    go_enter Tryd.func95, Tryd.ntmps95
    go_wp2_with fail
    refine (rasked_any 2048 _ _ _ [s] c _ _ _ [p] _ (((RdS.new1 w s 9).alloc (.cells #[.int .i64 p] 3) : RdS ((w.alloc (.cells #[.string s] 9)).alloc (.cells #[.int .i64 p] 3)) _ _ _ _)) (RdI.new1b w (.cells #[.string s] 9) p 3)).mono ?_
    rintro e w1 ⟨rfl, rfl⟩
    rw [askR_C]
    go_wp2
    go_ret2
    exact ⟨by rw [Fin.out]; rfl, ((Ext.refl w).alloc_right _).alloc_right _⟩
/-- The weights of bytes. -/
def wl (l : List UInt8) (p c : Int) : List UInt8 := l.map fun b => bOf (weightS (b.toNat : Int) p c)
def ordS (s t : ByteArray) (p c : Int) : Int := Lib.compareBytes (wl s.toList p c) (wl t.toList p c)
theorem cmp_rng : ∀ a b : List UInt8, -1 ≤ Lib.compareBytes a b ∧ Lib.compareBytes a b ≤ 1
  | [], [] => by decide
  | [], _ :: _ => by simp [Lib.compareBytes]
  | _ :: _, [] => by simp [Lib.compareBytes]
  | x :: a, y :: b => by
    have h := cmp_rng a b
    unfold Lib.compareBytes
    repeat' split
    all_goals omega
def okI (p c : Int) (l : List ByteArray) (x : Int) : Int := if askC p c l = 0 then x else 0
def GiveNN (x y : Int) (w : World) (e : Ending) (w' : World) : Prop := e = .returned (.tuple #[.int .i64 x, .int .i64 y]) ∧ Ext w w'
theorem ask_ok2 {p c : Int} {s t : ByteArray} (h : askC p c [s, t] = 0) : s.size ≤ 2048 ∧ t.size ≤ 2048 ∧ Pg p := by
  have h := (askC_ok h).1
  unfold askE at h
  split at h
  · cases h
  · rename_i h1
    split at h
    · cases h
    · rename_i h2
      refine ⟨?_, ?_, ?_⟩
      · have : ¬ 2048 < s.size := fun h3 => h1 (by simp [longTo, h3])
        omega
      · have : ¬ 2048 < t.size := fun h3 => h1 (by simp [longTo, h3])
        omega
      · unfold Pg
        simp [pgB] at h2
        omega
theorem bOf_lt {x y : Int} (hx : 0 ≤ x ∧ x ≤ 255) (hy : 0 ≤ y ∧ y ≤ 255) : bOf x < bOf y ↔ x < y := by
  have e1 := bOf_val x hx.1 hx.2
  have e2 := bOf_val y hy.1 hy.2
  rw [UInt8.lt_iff_toNat_lt]
  omega
def wb (l : List UInt8) (p c : Int) (k : Nat) : Int := weightS (bth l k) p c
theorem wl_cons (l : List UInt8) (p c : Int) (k : Nat) (hk : k < l.length) : (wl l p c).drop k = bOf (wb l p c k) :: (wl l p c).drop (k + 1) := by
  unfold wl
  rw [List.drop_eq_getElem_cons (by simpa using hk)]
  simp [wb, bth, List.getD, hk]
/-- From the k-th byte on they are ordered as the whole. -/
def Cmp (s t : ByteArray) (p c : Int) (k : Nat) : Prop := Lib.compareBytes ((wl s.toList p c).drop k) ((wl t.toList p c).drop k) = ordS s t p c
theorem cmp_step {s t : ByteArray} {p c : Int} {k : Nat} (hp : Pg p) (h : Cmp s t p c k) (h1 : k < s.toList.length) (h2 : k < t.toList.length) :
    (wb s.toList p c k < wb t.toList p c k → ordS s t p c = -1) ∧ (wb t.toList p c k < wb s.toList p c k → ordS s t p c = 1) ∧ (wb s.toList p c k = wb t.toList p c k → Cmp s t p c (k + 1)) := by
  have a1 := bth_in s.toList k
  have a2 := bth_in t.toList k
  have r1 := weight_rng (c := c) hp a1.1 a1.2
  have r2 := weight_rng (c := c) hp a2.1 a2.2
  unfold Cmp at h
  rw [wl_cons _ _ _ _ h1, wl_cons _ _ _ _ h2] at h
  unfold Lib.compareBytes at h
  have l1 : bOf (wb s.toList p c k) < bOf (wb t.toList p c k) ↔ wb s.toList p c k < wb t.toList p c k := bOf_lt r1 r2
  have l2 : bOf (wb t.toList p c k) < bOf (wb s.toList p c k) ↔ wb t.toList p c k < wb s.toList p c k := bOf_lt r2 r1
  refine ⟨fun hh => ?_, fun hh => ?_, fun hh => ?_⟩
  · rw [if_pos (l1.2 hh)] at h; exact h.symm
  · rw [if_neg (fun hx => by have := l1.1 hx; omega), if_pos (l2.2 hh)] at h; exact h.symm
  · rw [if_neg (fun hx => by have := l1.1 hx; omega), if_neg (fun hx => by have := l2.1 hx; omega)] at h; exact h
theorem cmp_end {s t : ByteArray} {p c : Int} {k : Nat} (h : Cmp s t p c k) (hk : k = s.toList.length ∨ k = t.toList.length) (h1 : k ≤ s.toList.length) (h2 : k ≤ t.toList.length) :
    ordS s t p c = if s.toList.length < t.toList.length then -1 else if t.toList.length < s.toList.length then 1 else 0 := by
  have ls : (wl s.toList p c).length = s.toList.length := by simp [wl]
  have lt : (wl t.toList p c).length = t.toList.length := by simp [wl]
  have d1 : ((wl s.toList p c).drop k).length = s.toList.length - k := by simp [ls]
  have d2 : ((wl t.toList p c).drop k).length = t.toList.length - k := by simp [lt]
  unfold Cmp at h
  rw [← h]
  generalize (wl s.toList p c).drop k = A at *
  generalize (wl t.toList p c).drop k = B at *
  cases A with
  | nil =>
    cases B with
    | nil => simp at d1 d2; rw [if_neg (by omega), if_neg (by omega)]; rfl
    | cons y B => simp at d1 d2; rw [if_pos (by omega)]; rfl
  | cons x A =>
    cases B with
    | nil => simp at d1 d2; rw [if_neg (by omega), if_pos (by omega)]; rfl
    | cons y B => simp at d1 d2; omega
theorem RdS.new2' (w : World) (s u : ByteArray) (t : TypeId) (o : Obj) : RdS ((w.alloc (.cells #[.string s, .string u] t)).alloc o) (some ⟨w.heap.size, 0, none⟩) 2 2 [s, u] := (RdS.new2 w s u t).alloc o
set_option maxRecDepth 100000 in
set_option maxHeartbeats 4000000 in
theorem rOrder_any (s t : ByteArray) (p c : Int) (w : World) : Calls Tryd.prog 23 #[.string s, .string t, .int .i64 p, .int .i64 c] w (GiveNN (okI p c [s, t] (ordS s t p c)) (askC p c [s, t]) w) := by
  by_cases h : askC p c [s, t] = 0
  · have e1 : (askC p c [s, t] != 0) = false := by simp [h]
    have Fin : Hid (okI p c [s, t] (ordS s t p c) = ordS s t p c) := by unfold Hid okI; rw [if_pos h]
    have Fin2 := hid h
    have ho := ask_ok2 h
    have hp := hid ho.2.2
    have hs1 := ho.1
    have hs2 := ho.2.1
    have hl1 : Hid (s.toList.length = s.size) := by unfold Hid; rw [ByteArray.toList_eq]; rfl
    have hl2 : Hid (t.toList.length = t.size) := by unfold Hid; rw [ByteArray.toList_eq]; rfl
    clear h ho
    go_enter Tryd.func23, Tryd.ntmps23
    go_wp2_with fail
    refine (rasked_any 2048 _ _ _ [s, t] c _ _ _ [p] _ (RdS.new2' w s t 9 (.cells #[.int .i64 p] 3)) (RdI.new1b w (.cells #[.string s, .string t] 9) p 3)).mono ?_
    rintro e w1 ⟨rfl, rfl⟩
    rw [askR_C]
    have hx1 := hid (((Ext.refl w).alloc_right (.cells #[.string s, .string t] 9)).alloc_right (.cells #[.int .i64 p] 3))
    generalize hw1 : (w.alloc (.cells #[.string s, .string t] 9)).alloc (.cells #[.int .i64 p] 3) = w1 at *
    clear hw1
    go_wp2_with fail
    go_loopw [11] (fun i wr => ∃ k : Nat, k ≤ s.size ∧ k ≤ t.size ∧ i = .int .i64 k ∧ Hid (Cmp s t p c k) ∧ Hid (Dr w1 wr)) (fun i _ => s.size - (intOf i).toNat)
    case atStart => exact ⟨0, by omega, by omega, rfl, (rfl : Cmp s t p c 0), Dr.refl _⟩
    case round =>
      obtain ⟨k, hk, hk2, rfl, hcm, hx⟩ := hrel
      by_cases hlt : k < s.size
      · by_cases hlt2 : k < t.size
        · have b1 : decide ((k : Int) < (s.size : Int)) = true := by simp; omega
          have b2 : decide ((k : Int) < (t.size : Int)) = true := by simp; omega
          have hxe := byte_at s hlt
          have hye := byte_at t hlt2
          have hr := bth_in s.toList k
          have hr2 := bth_in t.toList k
          have hst := hid (cmp_step hp.out hcm.out (by rw [hl1.out]; exact hlt) (by rw [hl2.out]; exact hlt2))
          have wx : Hid (weightS (s[k].toNat : Int) p c = wb s.toList p c k) := by unfold Hid wb; rw [hxe]
          have wy : Hid (weightS (t[k].toNat : Int) p c = wb t.toList p c k) := by unfold Hid wb; rw [hye]
          have r1 : (s[k].toNat : Int) ≤ 255 := by rw [hxe]; exact hr.2
          have r2 : (t[k].toNat : Int) ≤ 255 := by rw [hye]; exact hr2.2
          clear hxe hye hr hr2
          by_cases c1 : weightS (s[k].toNat : Int) p c < weightS (t[k].toNat : Int) p c
          · have d1 : decide (weightS (s[k].toNat : Int) p c < weightS (t[k].toNat : Int) p c) = true := by simpa using c1
            have hv := hid (hst.out.1 (by rw [← wx.out, ← wy.out]; exact c1))
            clear c1
            go_wp2
            go_quiet ((go_at_call 60; exact quiet_left (rweight_any _ _ _ hp.out _ (by omega) (by assumption))))
            go_wp2
            go_ret2
            exact ⟨by rw [Fin.out, Fin2.out, hv.out]; rfl, hx1.out.trans (Dr.step hx.out _).ext⟩
          · have d1 : decide (weightS (s[k].toNat : Int) p c < weightS (t[k].toNat : Int) p c) = false := by simpa using c1
            by_cases c2 : weightS (t[k].toNat : Int) p c < weightS (s[k].toNat : Int) p c
            · have d2 : decide (weightS (t[k].toNat : Int) p c < weightS (s[k].toNat : Int) p c) = true := by simpa using c2
              have hv := hid (hst.out.2.1 (by rw [← wx.out, ← wy.out]; exact c2))
              clear c1 c2
              go_wp2
              go_quiet ((go_at_call 60; exact quiet_left (rweight_any _ _ _ hp.out _ (by omega) (by assumption))))
              go_wp2
              go_ret2
              exact ⟨by rw [Fin.out, Fin2.out, hv.out]; rfl, hx1.out.trans (Dr.step hx.out _).ext⟩
            · have d2 : decide (weightS (t[k].toNat : Int) p c < weightS (s[k].toNat : Int) p c) = false := by simpa using c2
              have hv := hid (hst.out.2.2 (by rw [← wx.out, ← wy.out]; omega))
              clear c1 c2
              go_wp2
              go_quiet ((go_at_call 60; exact quiet_left (rweight_any _ _ _ hp.out _ (by omega) (by assumption))))
              go_wp2
              go_roundw
              case rel => exact ⟨k + 1, by omega, by omega, by go_num, hv, Dr.step hx.out _⟩
              case measure => simp [intOf]; omega
        · have hv := hid (cmp_end hcm.out (Or.inr (by rw [hl2.out]; omega)) (by rw [hl1.out]; omega) (by rw [hl2.out]; omega))
          have b1 : decide ((k : Int) < (s.size : Int)) = true := by simp; omega
          have b2 : decide ((k : Int) < (t.size : Int)) = false := by simp; omega
          have b3 : decide ((s.size : Int) < (t.size : Int)) = false := by simp; omega
          have b4 : decide ((t.size : Int) < (s.size : Int)) = true := by simp; omega
          have hv2 : Hid (ordS s t p c = 1) := by unfold Hid; rw [hv.out, hl1.out, hl2.out, if_neg (by omega), if_pos (by omega)]
          go_wp2
          go_ret2
          exact ⟨by rw [Fin.out, Fin2.out, hv2.out]; rfl, hx1.out.trans hx.out.ext⟩
      · have hv := hid (cmp_end hcm.out (Or.inl (by rw [hl1.out]; omega)) (by rw [hl1.out]; omega) (by rw [hl2.out]; omega))
        have b1 : decide ((k : Int) < (s.size : Int)) = false := by simp; omega
        have b4 : decide ((t.size : Int) < (s.size : Int)) = false := by simp; omega
        by_cases c1 : s.size < t.size
        · have b3 : decide ((s.size : Int) < (t.size : Int)) = true := by simp; omega
          have hv2 : Hid (ordS s t p c = -1) := by unfold Hid; rw [hv.out, hl1.out, hl2.out, if_pos (by omega)]
          go_wp2
          go_ret2
          exact ⟨by rw [Fin.out, Fin2.out, hv2.out]; rfl, hx1.out.trans hx.out.ext⟩
        · have b3 : decide ((s.size : Int) < (t.size : Int)) = false := by simp; omega
          have hv2 : Hid (ordS s t p c = 0) := by unfold Hid; rw [hv.out, hl1.out, hl2.out, if_neg (by omega), if_neg (by omega)]
          go_wp2
          go_ret2
          exact ⟨by rw [Fin.out, Fin2.out, hv2.out]; rfl, hx1.out.trans hx.out.ext⟩
  · have e1 : (askC p c [s, t] != 0) = true := by simp [h]
    have Fin : Hid (okI p c [s, t] (ordS s t p c) = 0) := by unfold Hid okI; rw [if_neg h]
    clear h
    go_enter Tryd.func23, Tryd.ntmps23
    go_wp2_with fail
    refine (rasked_any 2048 _ _ _ [s, t] c _ _ _ [p] _ (RdS.new2' w s t 9 (.cells #[.int .i64 p] 3)) (RdI.new1b w (.cells #[.string s, .string t] 9) p 3)).mono ?_
    rintro e w1 ⟨rfl, rfl⟩
    rw [askR_C]
    go_wp2
    go_ret2
    exact ⟨by rw [Fin.out]; rfl, ((Ext.refl w).alloc_right _).alloc_right _⟩
end Go.Proofs.YtlfanhlkoepodaaDoor.Pg
