/-
  Which sizes blocks have, how many a text needs, a file without texts: the program and the reference.
-/
import Derived.Test.YtcgjhloiokpicaaLk
import Derived.Test.YtcgjhloiokpicaaBase
import Derived.IntWalk
namespace Go.Proofs.Ytcgjhloiokpicaa
open Go.RowKit
set_option linter.unusedVariables false
set_option linter.unusedSimpArgs false
def szB (n : Int) : Bool := decide (16 ≤ n) && decide (n ≤ 256) && (n % 16 == 0)
theorem sz_bd {n : Int} (h : szB n = true) : 16 ≤ n ∧ n ≤ 256 := by
  simp [szB] at h
  omega
def needS (size n : Int) : Int := (n + 12 + size - 1) / size
/-- A text needs one block at least. -/
theorem need_rng {size n : Int} (h : 16 ≤ size ∧ size ≤ 256) (h0 : 0 ≤ n) (h1 : n ≤ 2048) : 1 ≤ needS size n ∧ needS size n ≤ 129 := by
  unfold needS
  constructor
  · rw [Int.le_ediv_iff_mul_le (by omega)]; omega
  · have : (n + 12 + size - 1) / size < 130 := by rw [Int.ediv_lt_iff_lt_mul (by omega)]; omega
    omega
theorem ret_nn {a b c d : Int} (h : a = b) (h' : c = d) : Ending.returned (.tuple #[.int .i64 a, .int .i64 c]) = .returned (.tuple #[.int .i64 b, .int .i64 d]) := by rw [h, h']
set_option maxRecDepth 100000 in
set_option maxHeartbeats 2000000 in
theorem isSize_any (n : Int) (w : World) : Calls Try.prog 32 #[.int .i64 n] w fun e w' => e = .returned (.bool (szB n)) ∧ w = w' := by
  by_cases h1 : 16 ≤ n
  · by_cases h2 : n ≤ 256
    · have d1 : decide (16 ≤ n) = true := by simpa using h1
      have d2 : decide (n ≤ 256) = true := by simpa using h2
      have Fin : Hid (szB n = (n % 16 == 0)) := by unfold Hid szB; rw [d1, d2]; rfl
      have hm : n.tmod 16 = n % 16 := Int.tmod_eq_emod_of_nonneg (by omega)
      go_enter Try.func32, Try.ntmps32
      go_wp2
      go_ret
      exact ⟨ret_bool Fin.out.symm, rfl⟩
    · have d1 : decide (16 ≤ n) = true := by simpa using h1
      have d2 : decide (n ≤ 256) = false := by simpa using h2
      have Fin : Hid (szB n = false) := by unfold Hid szB; rw [d1, d2]; rfl
      go_enter Try.func32, Try.ntmps32
      go_wp2
      go_ret
      exact ⟨ret_bool Fin.out.symm, rfl⟩
  · have d1 : decide (16 ≤ n) = false := by simpa using h1
    have Fin : Hid (szB n = false) := by unfold Hid szB; rw [d1]; rfl
    go_enter Try.func32, Try.ntmps32
    go_wp2
    go_ret
    exact ⟨ret_bool Fin.out.symm, rfl⟩
set_option maxRecDepth 100000 in
set_option maxHeartbeats 2000000 in
theorem risSize_any (n : Int) (w : World) : Calls Try.prog 34 #[.int .i64 n] w fun e w' => e = .returned (.bool (szB n)) ∧ w = w' := by
  by_cases h1 : 16 ≤ n
  · by_cases h2 : n ≤ 256
    · have d1 : decide (16 ≤ n) = true := by simpa using h1
      have d2 : decide (n ≤ 256) = true := by simpa using h2
      have Fin : Hid (szB n = (n % 16 == 0)) := by unfold Hid szB; rw [d1, d2]; rfl
      have hm : n.tmod 16 = n % 16 := Int.tmod_eq_emod_of_nonneg (by omega)
      go_enter Try.func34, Try.ntmps34
      go_wp2
      go_ret
      exact ⟨ret_bool Fin.out.symm, rfl⟩
    · have d1 : decide (16 ≤ n) = true := by simpa using h1
      have d2 : decide (n ≤ 256) = false := by simpa using h2
      have Fin : Hid (szB n = false) := by unfold Hid szB; rw [d1, d2]; rfl
      go_enter Try.func34, Try.ntmps34
      go_wp2
      go_ret
      exact ⟨ret_bool Fin.out.symm, rfl⟩
  · have d1 : decide (16 ≤ n) = false := by simpa using h1
    have Fin : Hid (szB n = false) := by unfold Hid szB; rw [d1]; rfl
    go_enter Try.func34, Try.ntmps34
    go_wp2
    go_ret
    exact ⟨ret_bool Fin.out.symm, rfl⟩
set_option maxRecDepth 100000 in
set_option maxHeartbeats 2000000 in
theorem needs_any (size n : Int) (w : World) (h1 : 16 ≤ size) (h2 : size ≤ 256) (h3 : 0 ≤ n) (h4 : n ≤ 2048) : Calls Try.prog 33 #[.int .i64 size, .int .i64 n] w fun e w' => e = .returned (.int .i64 (needS size n)) ∧ w = w' := by
  have hz : (size == 0) = false := by rw [beq_eq_false_iff_ne]; omega
  go_enter Try.func33, Try.ntmps33
  go_wp2
  go_ret
  exact ⟨ret_int (by unfold needS; try rfl), rfl⟩
set_option maxRecDepth 100000 in
set_option maxHeartbeats 2000000 in
theorem rneeds_any (size n : Int) (w : World) (h1 : 16 ≤ size) (h2 : size ≤ 256) (h3 : 0 ≤ n) (h4 : n ≤ 2048) : Calls Try.prog 35 #[.int .i64 size, .int .i64 n] w fun e w' => e = .returned (.int .i64 (needS size n)) ∧ w = w' := by
  have hz : (size == 0) = false := by rw [beq_eq_false_iff_ne]; omega
  go_enter Try.func35, Try.ntmps35
  go_wp2
  go_ret
  exact ⟨ret_int (by unfold needS; try rfl), rfl⟩
def ndOk (size n : Int) : Bool := szB size && decide (0 ≤ n) && decide (n ≤ 2048)
def ndV (size n : Int) : Int := if ndOk size n then needS size n else 0
def ndE (size n : Int) : Int := if ndOk size n then 0 else 1
theorem nd_no {size n : Int} (h : szB size = false ∨ n < 0 ∨ 2048 < n) : ndV size n = 0 ∧ ndE size n = 1 := by
  have : ndOk size n = false := by
    unfold ndOk
    rcases h with h | h | h
    · rw [h]; rfl
    · simp; omega
    · simp; omega
  unfold ndV ndE
  rw [this]
  exact ⟨rfl, rfl⟩
theorem nd_yes {size n : Int} (h : szB size = true) (h2 : ¬ n < 0) (h3 : ¬ 2048 < n) : ndV size n = needS size n ∧ ndE size n = 0 := by
  have : ndOk size n = true := by
    unfold ndOk
    rw [h]
    simp
    omega
  unfold ndV ndE
  rw [this]
  exact ⟨rfl, rfl⟩
set_option maxRecDepth 100000 in
set_option maxHeartbeats 2000000 in
theorem Needs_any (size n : Int) (w : World) : Calls Try.prog 9 #[.int .i64 size, .int .i64 n] w fun e w' => e = .returned (.tuple #[.int .i64 (ndV size n), .int .i64 (ndE size n)]) ∧ w = w' := by
  cases h1 : szB size with
  | false =>
    have Fin := hid (nd_no (n := n) (Or.inl h1))
    go_enter Try.func9, Try.ntmps9
    go_wp2_with fail
    refine (isSize_any size _).mono ?_
    rintro e w' ⟨rfl, rfl⟩
    rw [h1]
    go_wp2
    go_ret2
    exact ⟨by rw [Fin.out.1, Fin.out.2]; rfl, rfl⟩
  | true =>
    have hb := sz_bd h1
    have h1 := hid h1
    by_cases h2 : n < 0
    · have d2 : decide (n < 0) = true := by simpa using h2
      have Fin := hid (nd_no (size := size) (Or.inr (Or.inl h2)))
      clear h2
      go_enter Try.func9, Try.ntmps9
      go_wp2_with fail
      refine (isSize_any size _).mono ?_
      rintro e w' ⟨rfl, rfl⟩
      rw [h1.out]
      go_wp2
      go_ret2
      exact ⟨by rw [Fin.out.1, Fin.out.2]; rfl, rfl⟩
    · have d2 : decide (n < 0) = false := by simpa using h2
      by_cases h3 : 2048 < n
      · have d3 : decide (2048 < n) = true := by simpa using h3
        have Fin := hid (nd_no (size := size) (Or.inr (Or.inr h3)))
        clear h2 h3
        go_enter Try.func9, Try.ntmps9
        go_wp2_with fail
        refine (isSize_any size _).mono ?_
        rintro e w' ⟨rfl, rfl⟩
        rw [h1.out]
        go_wp2
        go_ret2
        exact ⟨by rw [Fin.out.1, Fin.out.2]; rfl, rfl⟩
      · have d3 : decide (2048 < n) = false := by simpa using h3
        have Fin := hid (nd_yes h1.out h2 h3)
        have g0 : 0 ≤ n := by omega
        have g1 : n ≤ 2048 := by omega
        clear h2 h3
        go_enter Try.func9, Try.ntmps9
        go_wp2_with fail
        refine (isSize_any size _).mono ?_
        rintro e w' ⟨rfl, rfl⟩
        rw [h1.out]
        go_wp2_with fail
        refine (needs_any size n _ hb.1 hb.2 g0 g1).mono ?_
        rintro e w' ⟨rfl, rfl⟩
        go_wp2
        go_ret2
        exact ⟨by rw [Fin.out.1, Fin.out.2]; rfl, rfl⟩
set_option maxRecDepth 100000 in
set_option maxHeartbeats 2000000 in
theorem rNeeds_any (size n : Int) (w : World) : Calls Try.prog 10 #[.int .i64 size, .int .i64 n] w fun e w' => e = .returned (.tuple #[.int .i64 (ndV size n), .int .i64 (ndE size n)]) ∧ w = w' := by
  cases h1 : szB size with
  | false =>
    have Fin := hid (nd_no (n := n) (Or.inl h1))
    go_enter Try.func10, Try.ntmps10
    go_wp2_with fail
    refine (risSize_any size _).mono ?_
    rintro e w' ⟨rfl, rfl⟩
    rw [h1]
    go_wp2
    go_ret2
    exact ⟨by rw [Fin.out.1, Fin.out.2]; rfl, rfl⟩
  | true =>
    have hb := sz_bd h1
    have h1 := hid h1
    by_cases h2 : n < 0
    · have d2 : decide (n < 0) = true := by simpa using h2
      have Fin := hid (nd_no (size := size) (Or.inr (Or.inl h2)))
      clear h2
      go_enter Try.func10, Try.ntmps10
      go_wp2_with fail
      refine (risSize_any size _).mono ?_
      rintro e w' ⟨rfl, rfl⟩
      rw [h1.out]
      go_wp2
      go_ret2
      exact ⟨by rw [Fin.out.1, Fin.out.2]; rfl, rfl⟩
    · have d2 : decide (n < 0) = false := by simpa using h2
      by_cases h3 : 2048 < n
      · have d3 : decide (2048 < n) = true := by simpa using h3
        have Fin := hid (nd_no (size := size) (Or.inr (Or.inr h3)))
        clear h2 h3
        go_enter Try.func10, Try.ntmps10
        go_wp2_with fail
        refine (risSize_any size _).mono ?_
        rintro e w' ⟨rfl, rfl⟩
        rw [h1.out]
        go_wp2
        go_ret2
        exact ⟨by rw [Fin.out.1, Fin.out.2]; rfl, rfl⟩
      · have d3 : decide (2048 < n) = false := by simpa using h3
        have Fin := hid (nd_yes h1.out h2 h3)
        have g0 : 0 ≤ n := by omega
        have g1 : n ≤ 2048 := by omega
        clear h2 h3
        go_enter Try.func10, Try.ntmps10
        go_wp2_with fail
        refine (risSize_any size _).mono ?_
        rintro e w' ⟨rfl, rfl⟩
        rw [h1.out]
        go_wp2_with fail
        refine (rneeds_any size n _ hb.1 hb.2 g0 g1).mono ?_
        rintro e w' ⟨rfl, rfl⟩
        go_wp2
        go_ret2
        exact ⟨by rw [Fin.out.1, Fin.out.2]; rfl, rfl⟩
end Go.Proofs.Ytcgjhloiokpicaa
