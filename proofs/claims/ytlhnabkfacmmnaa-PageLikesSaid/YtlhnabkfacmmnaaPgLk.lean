/-
  Is a text as a pattern says: the rule, from both ends. No program in sight.
-/
import Derived.Test.YtlhnabkfacmmnaaBase
namespace Go.Proofs.Ytlhnabkfacmmnaa
set_option linter.unusedVariables false
set_option linter.unusedSimpArgs false
/-- Some rest of it is so. -/
def starM (f : List UInt8 → Bool) : List UInt8 → Bool
  | [] => f []
  | b :: t => f (b :: t) || starM f t
def stepM (g : UInt8 → Bool) (f : List UInt8 → Bool) : List UInt8 → Bool
  | [] => false
  | b :: t => g b && f t
/-- A star stands for any bytes, a question mark for one, other bytes for those that are like them. -/
def mat (q : UInt8 → UInt8 → Bool) : List UInt8 → List UInt8 → Bool
  | [] => fun s => s.isEmpty
  | c :: p => if c = 42 then starM (mat q p) else stepM (fun b => c == 63 || q c b) (mat q p)
theorem mat_nil (q : UInt8 → UInt8 → Bool) (s : List UInt8) : mat q [] s = s.isEmpty := rfl
theorem mat_star (q : UInt8 → UInt8 → Bool) (p s : List UInt8) : mat q (42 :: p) s = starM (mat q p) s := rfl
theorem mat_step {c : UInt8} (h : c ≠ 42) (q : UInt8 → UInt8 → Bool) (p s : List UInt8) : mat q (c :: p) s = stepM (fun b => c == 63 || q c b) (mat q p) s := by
  show (if c = 42 then _ else _ : List UInt8 → Bool) s = _
  rw [if_neg h]
theorem starM_iff (f : List UInt8 → Bool) : ∀ s, starM f s = true ↔ ∃ k, k ≤ s.length ∧ f (s.drop k) = true
  | [] => ⟨fun h => ⟨0, Nat.le_refl _, h⟩, fun ⟨k, hk, h⟩ => by simpa [starM] using h⟩
  | b :: t => by
    rw [starM, Bool.or_eq_true, starM_iff f t]
    constructor
    · rintro (h | ⟨k, hk, h⟩)
      · exact ⟨0, by simp, h⟩
      · exact ⟨k + 1, by simpa using hk, h⟩
    · rintro ⟨k, hk, h⟩
      cases k with
      | zero => exact Or.inl h
      | succ k => exact Or.inr ⟨k, by simpa using hk, h⟩
theorem mat_app (q : UInt8 → UInt8 → Bool) : ∀ (p p' s s' : List UInt8), mat q p s = true → mat q p' s' = true → mat q (p ++ p') (s ++ s') = true
  | [], p', s, s', h, h' => by
    rw [mat_nil, List.isEmpty_iff] at h
    subst h
    exact h'
  | c :: p, p', s, s', h, h' => by
    by_cases hc : c = 42
    · subst hc
      rw [mat_star, starM_iff] at h
      obtain ⟨k, hk, h⟩ := h
      rw [List.cons_append, mat_star, starM_iff]
      refine ⟨k, by rw [List.length_append]; omega, ?_⟩
      rw [List.drop_append_of_le_length hk]
      exact mat_app q p p' _ s' h h'
    · rw [mat_step hc] at h
      rw [List.cons_append, mat_step hc]
      cases s with
      | nil => cases h
      | cons b t =>
        rw [stepM, Bool.and_eq_true] at h
        rw [List.cons_append, stepM, Bool.and_eq_true]
        exact ⟨h.1, mat_app q p p' t s' h.2 h'⟩
theorem mat_rev1 (q : UInt8 → UInt8 → Bool) : ∀ (p s : List UInt8), mat q p s = true → mat q p.reverse s.reverse = true
  | [], s, h => by
    rw [mat_nil, List.isEmpty_iff] at h
    subst h
    rfl
  | c :: p, s, h => by
    rw [List.reverse_cons]
    by_cases hc : c = 42
    · subst hc
      rw [mat_star, starM_iff] at h
      obtain ⟨k, hk, h⟩ := h
      rw [← List.take_append_drop k s, List.reverse_append]
      refine mat_app q _ _ _ _ (mat_rev1 q p _ h) ?_
      rw [mat_star, starM_iff]
      exact ⟨(s.take k).reverse.length, Nat.le_refl _, by rw [List.drop_length]; rfl⟩
    · rw [mat_step hc] at h
      cases s with
      | nil => cases h
      | cons b t =>
        rw [stepM, Bool.and_eq_true] at h
        rw [List.reverse_cons]
        refine mat_app q _ _ _ _ (mat_rev1 q p t h.2) ?_
        rw [mat_step hc, stepM, Bool.and_eq_true]
        exact ⟨h.1, rfl⟩
theorem mat_rev (q : UInt8 → UInt8 → Bool) (p s : List UInt8) : mat q p.reverse s.reverse = mat q p s := by
  rw [Bool.eq_iff_iff]
  constructor
  · intro h
    have := mat_rev1 q _ _ h
    rwa [List.reverse_reverse, List.reverse_reverse] at this
  · exact mat_rev1 q p s
end Go.Proofs.Ytlhnabkfacmmnaa
