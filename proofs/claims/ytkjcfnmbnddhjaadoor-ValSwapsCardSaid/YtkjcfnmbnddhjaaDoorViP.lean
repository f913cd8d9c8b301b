/-
  A text in which one is replaced by another one: from left to right. No program in sight.
-/
import Derived.Test.YtkjcfnmbnddhjaaDoorVaQ
import Derived.Lib.ReplaceLaws
namespace Go.Proofs.YtkjcfnmbnddhjaaDoor
set_option linter.unusedVariables false
set_option linter.unusedSimpArgs false
def swL (a b : List UInt8) : List UInt8 → List UInt8
  | [] => []
  | x :: l => if h : a ≠ [] ∧ a.isPrefixOf (x :: l) = true then b ++ swL a b ((x :: l).drop a.length) else x :: swL a b l
termination_by l => l.length
decreasing_by
  · have := List.length_pos_iff.2 h.1
    rw [List.length_drop]
    simp
    omega
  · simp
variable {a b : List UInt8}
theorem swL_nil : swL a b [] = [] := by rw [swL]
theorem swL_hit {l : List UInt8} (ha : a ≠ []) (hl : l ≠ []) (h : a.isPrefixOf l = true) : swL a b l = b ++ swL a b (l.drop a.length) := by
  obtain ⟨x, t, rfl⟩ := List.exists_cons_of_ne_nil hl
  rw [swL, dif_pos ⟨ha, h⟩]
theorem swL_miss {x : UInt8} {l : List UInt8} (h : a.isPrefixOf (x :: l) = false) : swL a b (x :: l) = x :: swL a b l := by
  rw [swL, dif_neg (fun q => by rw [h] at q; cases q.2)]
theorem occ_zero (l : List UInt8) : Lib.occAt l a 0 = a.isPrefixOf l := by unfold Lib.occAt; rw [List.drop_zero]
theorem swL_skip : ∀ (i : Nat) (l : List UInt8), i ≤ l.length → Lib.NoOcc l a i → swL a b l = l.take i ++ swL a b (l.drop i)
  | 0, l, _, _ => by simp
  | i + 1, [], h, _ => by simp at h
  | i + 1, x :: l, h, hn => by
    have h0 := hn 0 (by omega)
    rw [occ_zero] at h0
    rw [swL_miss h0, swL_skip i l (by simpa using h) (fun j hj => by have := hn (j + 1) (by omega); simpa [Lib.occAt] using this)]
    simp
theorem swL_same : ∀ (n : Nat) (l : List UInt8), l.length ≤ n → swL a a l = l
  | 0, l, h => by
    have : l = [] := List.eq_nil_of_length_eq_zero (by omega)
    rw [this, swL_nil]
  | n + 1, [], _ => swL_nil
  | n + 1, x :: l, h => by
    by_cases hp : a ≠ [] ∧ a.isPrefixOf (x :: l) = true
    · rw [swL, dif_pos hp]
      have hl := List.length_pos_iff.2 hp.1
      rw [swL_same n _ (by rw [List.length_drop]; simp at h ⊢; omega)]
      have := List.prefix_iff_eq_append.1 (List.isPrefixOf_iff_prefix.1 hp.2)
      exact this
    · rw [swL, dif_neg hp, swL_same n l (by simpa using h)]
theorem rep_swL (ha : a ≠ []) : ∀ (n : Nat) (l : List UInt8), l.length ≤ n → Lib.replaceK a b (Lib.count l a) l = swL a b l
  | n, l, hn => by
    rcases Lib.index_spec l a with ⟨hi, hno⟩ | ⟨i, hi, hle, hoc, hno⟩
    · rw [Lib.count_miss hi]
      show l = _
      rw [swL_skip l.length l (Nat.le_refl _) (fun j hj => hno j (by omega)), List.take_length, List.drop_length, swL_nil, List.append_nil]
    · have hr := Lib.index_room l a (by omega)
      have hpos := List.length_pos_iff.2 ha
      rw [Lib.count_hit ha hi, Nat.add_comm 1, Lib.replaceK_hit a b _ l i hi, swL_skip i l hle hno]
      have hd : l.drop i ≠ [] := by
        intro e
        have := congrArg List.length e
        rw [List.length_drop] at this
        simp at this
        omega
      rw [swL_hit ha hd (by unfold Lib.occAt at hoc; exact hoc), List.drop_drop, List.append_assoc]
      cases n with
      | zero => omega
      | succ n => rw [rep_swL ha n (l.drop (i + a.length)) (by rw [List.length_drop]; omega)]
theorem all_swL (ha : a ≠ []) (l : List UInt8) : Lib.replaceAll l a b = swL a b l := by
  unfold Lib.replaceAll Lib.replace
  by_cases e : a = b
  · subst e
    rw [if_pos (by simp), swL_same l.length l (Nat.le_refl _)]
  · rw [if_neg (by simpa using e)]
    have : Lib.replaceNum l a (-1) = Lib.count l a := by unfold Lib.replaceNum; rw [if_pos (Or.inl (by decide))]
    rw [this, rep_swL ha l.length l (Nat.le_refl _)]
end Go.Proofs.YtkjcfnmbnddhjaaDoor
