/-
  Is a text as a pattern says: the last star's way. No program in sight.
-/
import Derived.Test.YtlhnabkfacmmnaaPgLk
namespace Go.Proofs.Ytlhnabkfacmmnaa
set_option linter.unusedVariables false
set_option linter.unusedSimpArgs false
def MD (q : UInt8 → UInt8 → Bool) (P S : List UInt8) (p a : Nat) : Bool := mat q (P.drop p) (S.drop a)
variable {q : UInt8 → UInt8 → Bool} {P S : List UInt8} {p a fr : Nat}
theorem MD_star (hp : p < P.length) (h : P[p] = 42) (ha : a ≤ S.length) : MD q P S p a = true ↔ ∃ k, a ≤ k ∧ k ≤ S.length ∧ MD q P S (p + 1) k = true := by
  unfold MD
  rw [List.drop_eq_getElem_cons hp, h, mat_star, starM_iff]
  constructor
  · rintro ⟨k, hk, hm⟩
    rw [List.length_drop] at hk
    rw [List.drop_drop] at hm
    exact ⟨a + k, by omega, by omega, hm⟩
  · rintro ⟨k, h1, h2, hm⟩
    refine ⟨k - a, by rw [List.length_drop]; omega, ?_⟩
    rw [List.drop_drop, show a + (k - a) = k by omega]
    exact hm
theorem MD_step (hp : p < P.length) (h : P[p] ≠ 42) : MD q P S p a = true ↔ ∃ ha : a < S.length, (P[p] == 63 || q P[p] S[a]) = true ∧ MD q P S (p + 1) (a + 1) = true := by
  unfold MD
  rw [List.drop_eq_getElem_cons hp, mat_step h]
  by_cases ha : a < S.length
  · rw [List.drop_eq_getElem_cons ha, stepM, Bool.and_eq_true]
    exact ⟨fun x => ⟨ha, x⟩, fun ⟨_, x⟩ => x⟩
  · rw [List.drop_of_length_le (l := S) (by omega)]
    exact ⟨fun x => (by cases x), fun ⟨x, _⟩ => absurd x ha⟩
theorem MD_end : MD q P S P.length a = true ↔ S.length ≤ a := by
  unfold MD
  rw [List.drop_of_length_le (Nat.le_refl _), mat_nil, List.isEmpty_iff, List.drop_eq_nil_iff]
/-- What holds in the loop: the place in the pattern and the text, the last star, and where what is behind it was tried. -/
def LkI (q : UInt8 → UInt8 → Bool) (P S : List UInt8) (p a : Nat) : Option Nat → Nat → Prop
  | none, _ => mat q P S = MD q P S p a
  | some r, fr => r < p ∧ a = fr + (p - (r + 1)) ∧ (mat q P S = true ↔ (MD q P S p a = true ∨ ∃ k, fr < k ∧ k ≤ S.length ∧ MD q P S (r + 1) k = true)) ∧ ∀ k, k ≤ S.length → MD q P S (r + 1) k = true → k + (p - (r + 1)) ≤ S.length ∧ MD q P S p (k + (p - (r + 1))) = true
theorem LkI.start : LkI q P S 0 0 none 0 := rfl
theorem LkI.star {st : Option Nat} (h : LkI q P S p a st fr) (hp : p < P.length) (h2 : P[p] = 42) (ha : a ≤ S.length) : LkI q P S (p + 1) a (some p) a := by
  refine ⟨by omega, by omega, ?_, fun k hk hm => ⟨by omega, by rw [show k + (p + 1 - (p + 1)) = k by omega]; exact hm⟩⟩
  have hs := MD_star (q := q) hp h2 ha
  have hM : mat q P S = true ↔ MD q P S p a = true := by
    cases st with
    | none => rw [show mat q P S = MD q P S p a from h]
    | some r =>
      obtain ⟨h3, h4, h5, h6⟩ := h
      rw [h5]
      constructor
      · rintro (x | ⟨k, k1, k2, k3⟩)
        · exact x
        · obtain ⟨y1, y2⟩ := h6 k k2 k3
          obtain ⟨z, z1, z2, z3⟩ := (MD_star (q := q) hp h2 y1).1 y2
          exact hs.2 ⟨z, by omega, z2, z3⟩
      · exact Or.inl
  rw [hM, hs]
  constructor
  · rintro ⟨k, k1, k2, k3⟩
    by_cases e : k = a
    · subst e; exact Or.inl k3
    · exact Or.inr ⟨k, by omega, k2, k3⟩
  · rintro (x | ⟨k, k1, k2, k3⟩)
    · exact ⟨a, Nat.le_refl _, ha, x⟩
    · exact ⟨k, by omega, k2, k3⟩
theorem LkI.step {st : Option Nat} (h : LkI q P S p a st fr) (hp : p < P.length) (ha : a < S.length) (h2 : P[p] ≠ 42) (ok : (P[p] == 63 || q P[p] S[a]) = true) : LkI q P S (p + 1) (a + 1) st fr := by
  have hs : MD q P S p a = MD q P S (p + 1) (a + 1) := by
    rw [Bool.eq_iff_iff, MD_step (q := q) hp h2]
    exact ⟨fun ⟨_, _, x⟩ => x, fun x => ⟨ha, ok, x⟩⟩
  cases st with
  | none => exact (show mat q P S = MD q P S p a from h).trans hs
  | some r =>
    obtain ⟨h3, h4, h5, h6⟩ := h
    refine ⟨by omega, by omega, by rw [h5, hs], fun k hk hm => ?_⟩
    obtain ⟨y1, y2⟩ := h6 k hk hm
    obtain ⟨z1, _, z3⟩ := (MD_step (q := q) hp h2).1 y2
    rw [show k + (p + 1 - (r + 1)) = k + (p - (r + 1)) + 1 by omega]
    exact ⟨by omega, z3⟩
theorem LkI.back {r : Nat} (h : LkI q P S p a (some r) fr) (hf : MD q P S p a = false) (hfr : fr < S.length) : LkI q P S (r + 1) (fr + 1) (some r) (fr + 1) := by
  obtain ⟨h3, h4, h5, h6⟩ := h
  refine ⟨by omega, by omega, ?_, fun k hk hm => ⟨by omega, by rw [show k + (r + 1 - (r + 1)) = k by omega]; exact hm⟩⟩
  rw [h5, hf]
  constructor
  · rintro (x | ⟨k, k1, k2, k3⟩)
    · cases x
    · by_cases e : k = fr + 1
      · subst e; exact Or.inl k3
      · exact Or.inr ⟨k, by omega, k2, k3⟩
  · rintro (x | ⟨k, k1, k2, k3⟩)
    · exact Or.inr ⟨fr + 1, by omega, by omega, x⟩
    · exact Or.inr ⟨k, by omega, k2, k3⟩
theorem LkI.no {st : Option Nat} (h : LkI q P S p a st fr) (hf : MD q P S p a = false) (hs : st = none ∨ S.length ≤ fr) : mat q P S = false := by
  cases st with
  | none => exact (show mat q P S = MD q P S p a from h).trans hf
  | some r =>
    obtain ⟨h3, h4, h5, h6⟩ := h
    cases hm : mat q P S with
    | false => rfl
    | true =>
      rcases h5.1 hm with x | ⟨k, k1, k2, _⟩
      · rw [hf] at x; cases x
      · rcases hs with e | e
        · cases e
        · omega
theorem LkI.yes {st : Option Nat} (h : LkI q P S p a st fr) (hp : P.length ≤ p) (ha : S.length ≤ a) : mat q P S = true := by
  have hm : MD q P S p a = true := by
    unfold MD
    rw [List.drop_of_length_le hp, List.drop_of_length_le ha]
    rfl
  cases st with
  | none => exact (show mat q P S = MD q P S p a from h).trans hm
  | some r => exact h.2.2.1.2 (Or.inl hm)
theorem MD_no1 (hp : p < P.length) (h : P[p] ≠ 42) (hn : ¬ a < S.length) : MD q P S p a = false := by
  cases hm : MD q P S p a with
  | false => rfl
  | true => exact absurd ((MD_step hp h).1 hm).1 hn
theorem MD_no2 (hp : p < P.length) (h : P[p] ≠ 42) (ha : a < S.length) (hn : (P[p] == 63 || q P[p] S[a]) = false) : MD q P S p a = false := by
  cases hm : MD q P S p a with
  | false => rfl
  | true =>
    obtain ⟨_, x, _⟩ := (MD_step hp h).1 hm
    rw [hn] at x
    cases x
theorem MD_no3 (hp : ¬ p < P.length) (ha : a < S.length) : MD q P S p a = false := by
  unfold MD
  rw [List.drop_of_length_le (by omega), mat_nil, List.drop_eq_getElem_cons ha]
  rfl
end Go.Proofs.Ytlhnabkfacmmnaa
