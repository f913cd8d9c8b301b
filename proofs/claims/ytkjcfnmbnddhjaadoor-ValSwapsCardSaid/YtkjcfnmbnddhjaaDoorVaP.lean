/-
  Dates and their days: plain facts. No program in sight.
-/
import Derived.Test.YtkjcfnmbnddhjaaDoorBase
namespace Go.Proofs.YtkjcfnmbnddhjaaDoor
set_option linter.unusedVariables false
set_option linter.unusedSimpArgs false
def leapB (y : Int) : Bool := (y % 4 == 0) && ((y % 100 != 0) || (y % 400 == 0))
def leapN (y : Int) : Int := if leapB y then 1 else 0
def mdS (y m : Int) : Int := if m = 2 then 28 + leapN y else if m = 4 ∨ m = 6 ∨ m = 9 ∨ m = 11 then 30 else 31
def ydS (y : Int) : Int := 365 * (y - 1) + (y - 1) / 4 - (y - 1) / 100 + (y - 1) / 400
def cumS (y : Int) : Nat → Int
  | 0 => 0
  | k + 1 => cumS y k + mdS y ((k : Int) + 1)
def dayS (y m d : Int) : Int := ydS y + cumS y (m - 1).toNat + d
def okD (y m d : Int) : Prop := 1 ≤ y ∧ y ≤ 9999 ∧ 1 ≤ m ∧ m ≤ 12 ∧ 1 ≤ d ∧ d ≤ mdS y m
theorem leapN_in (y : Int) : 0 ≤ leapN y ∧ leapN y ≤ 1 := by unfold leapN; split <;> omega
theorem md_in (y m : Int) : 28 ≤ mdS y m ∧ mdS y m ≤ 31 := by
  have := leapN_in y
  unfold mdS
  repeat' split
  all_goals omega
theorem leap_succ (y : Int) (h : 1 ≤ y) : ydS (y + 1) = ydS y + 365 + leapN y := by
  unfold ydS leapN leapB
  by_cases h4 : y % 4 = 0
  · by_cases h100 : y % 100 = 0
    · by_cases h400 : y % 400 = 0
      · simp [h4, h100, h400]; omega
      · simp [h4, h100, h400]; omega
    · simp [h4, h100]; omega
  · simp [h4]; omega
theorem cum_12 (y : Int) : cumS y 12 = 365 + leapN y := by
  simp [cumS, mdS]
  omega
theorem cum_mono (y : Int) {a b : Nat} (h : a ≤ b) : cumS y a ≤ cumS y b := by
  induction b with
  | zero => have : a = 0 := by omega
            subst this; exact Int.le_refl _
  | succ b ih =>
    by_cases e : a = b + 1
    · subst e; exact Int.le_refl _
    · have := ih (by omega)
      have := md_in y ((b : Int) + 1)
      have e : cumS y (b + 1) = cumS y b + mdS y ((b : Int) + 1) := rfl
      rw [e]
      omega
theorem yd_mono {a b : Int} (h : a ≤ b) : ydS a ≤ ydS b := by unfold ydS; omega
theorem day_year {y m d : Int} (h : okD y m d) : ydS y < dayS y m d ∧ dayS y m d ≤ ydS (y + 1) := by
  obtain ⟨h1, h2, h3, h4, h5, h6⟩ := h
  have e := leap_succ y h1
  have c0 := cum_mono y (Nat.zero_le (m - 1).toNat)
  have c12 := cum_mono y (show (m - 1).toNat + 1 ≤ 12 by omega)
  rw [cum_12] at c12
  have e2 : cumS y ((m - 1).toNat + 1) = cumS y (m - 1).toNat + mdS y (((m - 1).toNat : Int) + 1) := rfl
  rw [show (((m - 1).toNat : Int) + 1) = m by omega] at e2
  have z : cumS y 0 = 0 := rfl
  unfold dayS
  omega
theorem day_inj {y m d y' m' d' : Int} (h : okD y m d) (h' : okD y' m' d') (e : dayS y m d = dayS y' m' d') : y = y' ∧ m = m' ∧ d = d' := by
  have a := day_year h
  have b := day_year h'
  have hy : y = y' := by
    rcases Int.lt_trichotomy y y' with q | q | q
    · have := yd_mono (show y + 1 ≤ y' by omega); omega
    · exact q
    · have := yd_mono (show y' + 1 ≤ y by omega); omega
  subst hy
  obtain ⟨h1, h2, h3, h4, h5, h6⟩ := h
  obtain ⟨_, _, k3, k4, k5, k6⟩ := h'
  have step : ∀ m : Int, 1 ≤ m → cumS y ((m - 1).toNat + 1) = cumS y (m - 1).toNat + mdS y m := by
    intro m hm
    have e2 : cumS y ((m - 1).toNat + 1) = cumS y (m - 1).toNat + mdS y (((m - 1).toNat : Int) + 1) := rfl
    rw [show (((m - 1).toNat : Int) + 1) = m by omega] at e2
    exact e2
  unfold dayS at e
  have hm : m = m' := by
    rcases Int.lt_trichotomy m m' with q | q | q
    · have c := cum_mono y (show (m - 1).toNat + 1 ≤ (m' - 1).toNat by omega)
      rw [step m h3] at c
      omega
    · exact q
    · have c := cum_mono y (show (m' - 1).toNat + 1 ≤ (m - 1).toNat by omega)
      rw [step m' k3] at c
      omega
  subst hm
  exact ⟨rfl, rfl, by omega⟩
theorem yd_1 : ydS 1 = 0 := by decide
theorem yd_10000 : ydS 10000 = 3652059 := by decide
theorem day_in {y m d : Int} (h : okD y m d) : 1 ≤ dayS y m d ∧ dayS y m d ≤ 3652059 := by
  have a := day_year h
  have b := yd_mono h.1
  have c := yd_mono (show y + 1 ≤ 10000 by have := h.2.1; omega)
  rw [yd_1] at b
  rw [yd_10000] at c
  omega
/-- The date of a day. -/
noncomputable def dateS (n : Int) : Int × Int × Int := by
  classical
  exact if h : ∃ t : Int × Int × Int, okD t.1 t.2.1 t.2.2 ∧ dayS t.1 t.2.1 t.2.2 = n then Classical.choose h else (0, 0, 0)
theorem date_eq {y m d n : Int} (h : okD y m d) (e : dayS y m d = n) : dateS n = (y, m, d) := by
  classical
  have hx : ∃ t : Int × Int × Int, okD t.1 t.2.1 t.2.2 ∧ dayS t.1 t.2.1 t.2.2 = n := ⟨(y, m, d), h, e⟩
  have hs := Classical.choose_spec hx
  have hd : dateS n = Classical.choose hx := by unfold dateS; rw [dif_pos hx]
  rw [hd]
  have := day_inj hs.1 h (by rw [hs.2, e])
  exact Prod.ext this.1 (Prod.ext this.2.1 this.2.2)
theorem guess_lt {n : Int} (h : 1 ≤ n) : ydS (n / 366 + 1) < n := by unfold ydS; omega
/-- The year of a day. -/
def YearOf (y n : Int) : Prop := 1 ≤ y ∧ y ≤ 9999 ∧ ydS y < n ∧ n ≤ ydS (y + 1)
end Go.Proofs.YtkjcfnmbnddhjaaDoor
