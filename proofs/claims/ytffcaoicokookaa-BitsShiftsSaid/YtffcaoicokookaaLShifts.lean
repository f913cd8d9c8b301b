import Derived.Test.YtffcaoicokookaaT16
namespace Go.Proofs.Ytffcaoicokookaa
open Go.RowKit
set_option linter.unusedVariables false

set_option maxRecDepth 100000 in
set_option maxHeartbeats 2000000 in
theorem shifts_law (A : Option Addr) (n c : Nat) (l : List Int) (B : Option Addr) (m d : Nat) (r : List Int) (w : World) (hs : RdI w A n c l) (ht : RdI w B m d r) :
    Calls Try.prog 3 #[.slice A n c, .slice B m d] w (Give (.bool true) w) := by
  have hm1 := hs.max
  have hm2 := ht.max
  by_cases hn : 3000 < n
  · have e1 : decide ((3000 : Int) < (n : Int)) = true := by simp; omega
    go_enter Try.func3, Try.ntmps3
    go_wp2_with fail
    refine (known_any _).mono ?_
    rintro e w1 ⟨rfl, hx⟩
    go_wp2
    go_ret
    exact ⟨rfl, hx⟩
  · have e1 : decide ((3000 : Int) < (n : Int)) = false := by simp; omega
    by_cases hm : 3000 < m
    · have e2 : decide ((3000 : Int) < (m : Int)) = true := by simp; omega
      go_enter Try.func3, Try.ntmps3
      go_wp2_with fail
      refine (known_any _).mono ?_
      rintro e w1 ⟨rfl, hx⟩
      go_wp2
      go_ret
      exact ⟨rfl, hx⟩
    · have e2 : decide ((3000 : Int) < (m : Int)) = false := by simp; omega
      by_cases hset : isSetS 300 l = true ∧ isSetS 300 r = true
      · have hq := shift_eq hset.1 hset.2
        have kk : sameS (shiftS l r) (refShiftS l r) = true := by rw [hq]; simp [sameS]
        clear hq
        go_enter Try.func3, Try.ntmps3
        go_wp2_with fail
        refine (Shift_yes _ _ _ _ _ _ _ _ _ hs ht hset.1 hset.2 (by omega) (by omega)).mono ?_
        rintro e w1 ⟨C, p, cp, rfl, h1, hx1, -⟩
        go_wp2_with fail
        refine (rShift_yes _ _ _ _ _ _ _ _ _ (hs.ext hx1) (ht.ext hx1) hset.1 hset.2 (by omega) (by omega)).mono ?_
        rintro e w2 ⟨D, q, cq, rfl, h2, hx2, -⟩
        go_wp2_with fail
        refine (same_any _ _ _ _ _ _ _ _ _ (h1.ext hx2) h2).mono ?_
        rintro e w3 ⟨rfl, hx3⟩
        go_wp2_with fail
        refine (known_any _).mono ?_
        rintro e w4 ⟨rfl, hx4⟩
        have hE := hid (((hx1.trans hx2).trans hx3.ext).trans hx4)
        clear hx1 hx2 hx3 hx4
        go_wp2
        go_ret
        exact ⟨rfl, hE.out⟩
      · have hset' : isSetS 300 l = false ∨ isSetS 300 r = false := by
          by_cases h : isSetS 300 l = true
          · exact Or.inr (by simpa [h] using hset)
          · exact Or.inl (by simpa using h)
        have kk : sameS ([] : List Int) [] = true := by decide
        go_enter Try.func3, Try.ntmps3
        go_wp2_with fail
        refine (Shift_no _ _ _ _ _ _ _ _ _ hs ht hset').mono ?_
        rintro e w1 ⟨C, p, cp, rfl, h1, hx1, -⟩
        go_wp2_with fail
        refine (rShift_no _ _ _ _ _ _ _ _ _ (hs.ext hx1) (ht.ext hx1) hset').mono ?_
        rintro e w2 ⟨D, q, cq, rfl, h2, hx2, -⟩
        go_wp2_with fail
        refine (same_any _ _ _ _ _ _ _ _ _ (h1.ext hx2) h2).mono ?_
        rintro e w3 ⟨rfl, hx3⟩
        go_wp2_with fail
        refine (known_any _).mono ?_
        rintro e w4 ⟨rfl, hx4⟩
        have hE := hid (((hx1.trans hx2).trans hx3.ext).trans hx4)
        clear hx1 hx2 hx3 hx4
        go_wp2
        go_ret
        exact ⟨rfl, hE.out⟩
end Go.Proofs.Ytffcaoicokookaa
