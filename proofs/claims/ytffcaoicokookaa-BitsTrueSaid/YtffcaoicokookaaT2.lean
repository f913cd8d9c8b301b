import Derived.Test.YtffcaoicokookaaT1
namespace Go.Proofs.Ytffcaoicokookaa
open Go.RowKit

def okAt (n : Int) (l : List Int) (i : Nat) : Bool := decide (1 ≤ nth l i) && decide (nth l i ≤ n) && (decide (i = 0) || decide (nth l (i-1) < nth l i))
def okTo (n : Int) (l : List Int) (k : Nat) : Bool := (List.range k).all (okAt n l)
def isSetS (n : Int) (l : List Int) : Bool := okTo n l l.length
theorem okTo_succ (n : Int) (l : List Int) (k : Nat) : okTo n l (k+1) = (okTo n l k && okAt n l k) := by simp [okTo, List.range_succ]
theorem isSetS_no (n : Int) (l : List Int) (k : Nat) (hk : k < l.length) (h : okAt n l k = false) : isSetS n l = false := by
  unfold isSetS okTo
  rw [List.all_eq_false]
  exact ⟨k, by simpa using hk, by simp [h]⟩

set_option maxHeartbeats 400000 in
theorem isSet_any (A : Option Addr) (n c : Nat) (l : List Int) (N : Int) (w : World) (hs : RdI w A n c l) :
    Calls Try.prog 47 #[.slice A n c, .int .i64 N] w (Quiet (.bool (isSetS N l)) w) := by
  have Hl := hid hs.len
  have hm := hs.max
  go_enter Try.func47, Try.ntmps47
  go_wp2
  go_loopw [9] (fun i wr => (∃ j : Nat, j ≤ n ∧ i = .int .i64 j ∧ okTo N l j = true) ∧ Dr w wr) (fun i _ => n - (intOf i).toNat)
  case atStart => exact ⟨⟨0, by omega, rfl, rfl⟩, Dr.refl _⟩
  case round =>
    obtain ⟨⟨j, hj, rfl, hno⟩, q, rfl⟩ := hrel
    have Hno := hid hno; clear hno
    by_cases hlt : j < n
    · obtain ⟨ad, rfl, hc⟩ := hs.at_ hlt
      by_cases h0 : j = 0
      · subst h0
        have hc0 := hs.cell0 hlt
        go_wp2
        all_goals first
          | (go_ret; exact ⟨ret_bool (isSetS_no N l 0 (by rw [Hl.out]; exact hlt) (by simp [okAt]; omega)).symm, by first | exact Dr.mk1 _ _ | exact Dr.mk2 _ _ _⟩)
          | (go_roundw
             case rel => exact ⟨⟨1, by omega, by go_num, by rw [okTo_succ, Hno.out]; simp [okAt]; omega⟩, by first | exact Dr.mk1 _ _ | exact Dr.mk2 _ _ _⟩
             case measure => simp [intOf]; omega)
      · have hc' := hs.cells (k := j - 1) (by omega)
        have e1 : ((j : Int) - 1).toNat = j - 1 := by omega
        go_wp2
        all_goals first
          | (go_ret; exact ⟨ret_bool (isSetS_no N l j (by rw [Hl.out]; exact hlt) (by simp [okAt]; omega)).symm, by first | exact Dr.mk1 _ _ | exact Dr.mk2 _ _ _⟩)
          | (go_roundw
             case rel => exact ⟨⟨j + 1, by omega, by go_num, by rw [okTo_succ, Hno.out]; simp [okAt]; omega⟩, by first | exact Dr.mk1 _ _ | exact Dr.mk2 _ _ _⟩
             case measure => simp [intOf]; omega)
    · go_wp2
      go_ret
      have h := Hno.out
      rw [show j = l.length by rw [Hl.out]; omega] at h
      exact ⟨ret_bool h.symm, Dr.mk1 _ _⟩

set_option maxHeartbeats 400000 in
theorem IsSet_any (A : Option Addr) (n c : Nat) (l : List Int) (w : World) (hs : RdI w A n c l) :
    Calls Try.prog 51 #[.slice A n c] w (Quiet (.bool (isSetS 300 l)) w) := by
  have Hl := hid hs.len
  have hm := hs.max
  go_enter Try.func51, Try.ntmps51
  go_wp2
  go_loopw [3] (fun i wr => (∃ j : Nat, j ≤ n ∧ i = .int .i64 j ∧ okTo 300 l j = true) ∧ Dr w wr) (fun i _ => n - (intOf i).toNat)
  case atStart => exact ⟨⟨0, by omega, rfl, rfl⟩, Dr.refl _⟩
  case round =>
    obtain ⟨⟨j, hj, rfl, hno⟩, q, rfl⟩ := hrel
    have Hno := hid hno; clear hno
    by_cases hlt : j < n
    · obtain ⟨ad, rfl, hc⟩ := hs.at_ hlt
      by_cases h0 : j = 0
      · subst h0
        have hc0 := hs.cell0 hlt
        by_cases g1 : nth l 0 < 1
        · have d1 : decide (nth l 0 < 1) = true := by simpa using g1
          go_wp2
          go_quiet (fail)
          go_wp2
          go_ret
          exact ⟨ret_bool (isSetS_no 300 l 0 (by rw [Hl.out]; exact hlt) (by simp [okAt]; omega)).symm, by first | exact Dr.mk1 _ _ | exact Dr.mk2 _ _ _⟩
        · have d1 : decide (nth l 0 < 1) = false := by simpa using g1
          by_cases g2 : 300 < nth l 0
          · have d2 : decide ((300 : Int) < nth l 0) = true := by simpa using g2
            go_wp2
            go_quiet (fail)
            go_wp2
            go_ret
            exact ⟨ret_bool (isSetS_no 300 l 0 (by rw [Hl.out]; exact hlt) (by simp [okAt]; omega)).symm, by first | exact Dr.mk1 _ _ | exact Dr.mk2 _ _ _⟩
          · have d2 : decide ((300 : Int) < nth l 0) = false := by simpa using g2
            go_wp2
            go_quiet (fail)
            go_wp2
            go_roundw
            case rel => exact ⟨⟨1, by omega, by go_num, by rw [okTo_succ, Hno.out]; simp [okAt]; omega⟩, by first | exact Dr.mk1 _ _ | exact Dr.mk2 _ _ _⟩
            case measure => simp [intOf]; omega
      · have hc' := hs.cells (k := j - 1) (by omega)
        have e1 : ((j : Int) - 1).toNat = j - 1 := by omega
        have p0 : decide (0 < j) = true := by simp; omega
        have p1 : decide ((0 : Int) < (j : Int)) = true := by simp; omega
        by_cases g1 : nth l j < 1
        · have d1 : decide (nth l j < 1) = true := by simpa using g1
          go_wp2
          go_quiet (fail)
          go_wp2
          go_ret
          exact ⟨ret_bool (isSetS_no 300 l j (by rw [Hl.out]; exact hlt) (by simp [okAt]; omega)).symm, by first | exact Dr.mk1 _ _ | exact Dr.mk2 _ _ _⟩
        · have d1 : decide (nth l j < 1) = false := by simpa using g1
          by_cases g2 : 300 < nth l j
          · have d2 : decide ((300 : Int) < nth l j) = true := by simpa using g2
            go_wp2
            go_quiet (fail)
            go_wp2
            go_ret
            exact ⟨ret_bool (isSetS_no 300 l j (by rw [Hl.out]; exact hlt) (by simp [okAt]; omega)).symm, by first | exact Dr.mk1 _ _ | exact Dr.mk2 _ _ _⟩
          · have d2 : decide ((300 : Int) < nth l j) = false := by simpa using g2
            by_cases g3 : nth l j ≤ nth l (j-1)
            · have d3 : decide (nth l j ≤ nth l (j-1)) = true := by simpa using g3
              go_wp2
              go_quiet (fail)
              go_wp2
              go_ret
              exact ⟨ret_bool (isSetS_no 300 l j (by rw [Hl.out]; exact hlt) (by simp [okAt]; omega)).symm, by first | exact Dr.mk1 _ _ | exact Dr.mk2 _ _ _⟩
            · have d3 : decide (nth l j ≤ nth l (j-1)) = false := by simpa using g3
              go_wp2
              go_quiet (fail)
              go_wp2
              go_roundw
              case rel => exact ⟨⟨j + 1, by omega, by go_num, by rw [okTo_succ, Hno.out]; simp [okAt]; omega⟩, by first | exact Dr.mk1 _ _ | exact Dr.mk2 _ _ _⟩
              case measure => simp [intOf]; omega
    · go_wp2
      go_ret
      have h := Hno.out
      rw [show j = l.length by rw [Hl.out]; omega] at h
      exact ⟨ret_bool h.symm, Dr.mk1 _ _⟩
end Go.Proofs.Ytffcaoicokookaa
