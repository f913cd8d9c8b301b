/-
  The reference's letters, capitals and small letters.
-/
import Derived.Test.YtlhnabkfacmmnaaPg8
namespace Go.Proofs.Ytlhnabkfacmmnaa
open Go.RowKit
set_option linter.unusedVariables false
set_option linter.unusedSimpArgs false
theorem by_small {x p : Int} (hp : Pg p) (h : isSmallS x p = true) : x - byS x p = upS_ x p ∧ byS x p ≤ x := by
  rcases hp with rfl | rfl | rfl <;> simp [isSmallS, isSmallA, isSmallB, withinB] at h <;> unfold byS upS_ <;> simp [isCapS, isSmallA, isSmallB, withinB] <;> (repeat' split) <;> omega
theorem not_small {x p : Int} (h : isSmallS x p = false) : upS_ x p = x := by
  simp only [isSmallS, Bool.or_eq_false_iff] at h
  simp [upS_, h.1, h.2]
theorem by_cap {x p : Int} (hp : Pg p) (h : isCapS x p = true) : x + byS x p = lowS x p ∧ x + byS x p ≤ 255 := by
  rcases hp with rfl | rfl | rfl <;> simp [isCapS, withinB] at h <;> unfold byS lowS <;> simp [isCapS, isSmallA, isSmallB, withinB] <;> (repeat' split) <;> omega
theorem not_cap {x p : Int} (h : isCapS x p = false) : lowS x p = x := by simp [lowS, h]
set_option maxRecDepth 100000 in
set_option maxHeartbeats 2000000 in
theorem rIsLetter_any (x p : Int) (hp : Pg p) (w : World) (h0 : 0 ≤ x) (h255 : x ≤ 255) : Calls Try.prog 34 #[.int .u8 x, .int .i64 p] w fun e w' => e = .returned (.bool (isLetS x p)) ∧ w = w' := by
  have Fin : Hid ((isCapS x p || isSmallS x p) = isLetS x p) := by unfold Hid isLetS; rw [Bool.or_comm]
  rcases Bool.eq_false_or_eq_true (isCapS x p) with h1 | h1 <;> rcases Bool.eq_false_or_eq_true (isSmallS x p) with h2 | h2
  all_goals
    go_enter Try.func34, Try.ntmps34
    go_wp2_with fail
    refine (pair_any _ _ hp _ h0 h255).mono ?_
    rintro e w' ⟨rfl, rfl⟩
    go_wp2
    go_ret
    exact ⟨ret_bool (by rw [← Fin.out, h1, h2]; rfl), rfl⟩
set_option maxRecDepth 100000 in
set_option maxHeartbeats 2000000 in
theorem rupper_any (x p : Int) (hp : Pg p) (w : World) (h0 : 0 ≤ x) (h255 : x ≤ 255) : Calls Try.prog 35 #[.int .u8 x, .int .i64 p] w fun e w' => e = .returned (.int .u8 (upS_ x p)) ∧ w = w' := by
  rcases Bool.eq_false_or_eq_true (isSmallS x p) with h | h
  · have hb := by_small hp h
    have hb1 := hid hb.1
    have hu := upS_rng (p := p) h0 h255
    have ew : IntKind.u8.wrap (x - byS x p) = x - byS x p := u8_in _ (by omega) (by omega)
    clear hb
    go_enter Try.func35, Try.ntmps35
    go_wp2_with fail
    refine (pair_any _ _ hp _ h0 h255).mono ?_
    rintro e w' ⟨rfl, rfl⟩
    go_wp2
    go_ret
    exact ⟨ret_int hb1.out, rfl⟩
  · have hb1 := hid (not_small h)
    go_enter Try.func35, Try.ntmps35
    go_wp2_with fail
    refine (pair_any _ _ hp _ h0 h255).mono ?_
    rintro e w' ⟨rfl, rfl⟩
    go_wp2
    go_ret
    exact ⟨ret_int hb1.out.symm, rfl⟩
set_option maxRecDepth 100000 in
set_option maxHeartbeats 2000000 in
theorem rlower_any (x p : Int) (hp : Pg p) (w : World) (h0 : 0 ≤ x) (h255 : x ≤ 255) : Calls Try.prog 46 #[.int .u8 x, .int .i64 p] w fun e w' => e = .returned (.int .u8 (lowS x p)) ∧ w = w' := by
  rcases Bool.eq_false_or_eq_true (isCapS x p) with h | h
  · have hb := by_cap hp h
    have hb1 := hid hb.1
    have hu := lowS_rng (p := p) h0 h255
    have ew : IntKind.u8.wrap (x + byS x p) = x + byS x p := u8_in _ (by omega) (by omega)
    clear hb
    go_enter Try.func46, Try.ntmps46
    go_wp2_with fail
    refine (pair_any _ _ hp _ h0 h255).mono ?_
    rintro e w' ⟨rfl, rfl⟩
    go_wp2
    go_ret
    exact ⟨ret_int hb1.out, rfl⟩
  · have hb1 := hid (not_cap h)
    go_enter Try.func46, Try.ntmps46
    go_wp2_with fail
    refine (pair_any _ _ hp _ h0 h255).mono ?_
    rintro e w' ⟨rfl, rfl⟩
    go_wp2
    go_ret
    exact ⟨ret_int hb1.out.symm, rfl⟩
end Go.Proofs.Ytlhnabkfacmmnaa
