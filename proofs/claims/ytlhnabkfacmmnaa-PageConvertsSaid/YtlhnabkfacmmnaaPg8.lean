/-
  The reference's functions on one byte.
-/
import Derived.Test.YtlhnabkfacmmnaaPg7
namespace Go.Proofs.Ytlhnabkfacmmnaa
open Go.RowKit
set_option linter.unusedVariables false
set_option linter.unusedSimpArgs false
def byS (x p : Int) : Int := if isCapS x p then (if p = 2 ∧ 144 ≤ x then 80 else 32) else if isSmallA x p then 32 else if isSmallB x p then 80 else 0
theorem ret_3 {a a' b b' : Bool} {x y : Int} (h1 : a = a') (h2 : b = b') (h3 : x = y) : Ending.returned (.tuple #[.bool a, .bool b, .int .u8 x]) = .returned (.tuple #[.bool a', .bool b', .int .u8 y]) := by rw [h1, h2, h3]
set_option maxRecDepth 100000 in
set_option maxHeartbeats 8000000 in
theorem pair_any (x p : Int) (hp : Pg p) (w : World) (h0 : 0 ≤ x) (h255 : x ≤ 255) : Calls Try.prog 54 #[.int .u8 x, .int .i64 p] w fun e w' => e = .returned (.tuple #[.bool (isCapS x p), .bool (isSmallS x p), .int .u8 (byS x p)]) ∧ w = w' := by
  rcases hp with rfl | rfl | rfl
  · go_enter Try.func54, Try.ntmps54
    go_wp2
    all_goals go_ret3
    all_goals refine ⟨ret_3 ?_ ?_ ?_, rfl⟩
    all_goals simp_all [isCapS, isSmallS, isSmallA, isSmallB, withinB, byS]
    all_goals omega
  · go_enter Try.func54, Try.ntmps54
    go_wp2
    all_goals go_ret3
    all_goals refine ⟨ret_3 ?_ ?_ ?_, rfl⟩
    all_goals simp_all [isCapS, isSmallS, isSmallA, isSmallB, withinB, byS]
    all_goals omega
  · go_enter Try.func54, Try.ntmps54
    go_wp2
    all_goals go_ret3
    all_goals refine ⟨ret_3 ?_ ?_ ?_, rfl⟩
    all_goals simp_all [isCapS, isSmallS, isSmallA, isSmallB, withinB, byS]
    all_goals omega
end Go.Proofs.Ytlhnabkfacmmnaa
