/-
  What lies between two bounds, as it is and turned. No program in sight.
-/
import Derived.Test.YtlfanhlkoepodaaDoorKO
namespace Go.Proofs.YtlfanhlkoepodaaDoor
set_option linter.unusedVariables false
set_option linter.unusedSimpArgs false
/-- The least text above all that begin with a text, from its front. -/
def behF : List UInt8 → Option (List UInt8)
  | [] => none
  | b :: l => match behF l with
    | some x => some (b :: x)
    | none => if b.toNat < 255 then some [byo (b.toNat + 1)] else none
theorem behF_cons (b : UInt8) (l : List UInt8) : behF (b :: l) = match behF l with | some x => some (b :: x) | none => if b.toNat < 255 then some [byo (b.toNat + 1)] else none := rfl
theorem behF_skip {b : UInt8} (h : b.toNat = 255) : ∀ p : List UInt8, behF (p ++ [b]) = behF p
  | [] => by show behF [b] = none; rw [behF_cons]; simp [behF, h]
  | a :: p => by rw [List.cons_append, behF_cons, behF_skip h p]; rfl
theorem behF_hit {b : UInt8} (h : b.toNat ≠ 255) : ∀ p : List UInt8, behF (p ++ [b]) = some (p ++ [byo (b.toNat + 1)])
  | [] => by
    have := b.toNat_lt
    show behF [b] = _
    rw [behF_cons]
    simp [behF, show b.toNat < 255 by omega]
  | a :: p => by rw [List.cons_append, behF_cons, behF_hit h p]; rfl
theorem behR_F : ∀ r : List UInt8, behR r = behF r.reverse
  | [] => rfl
  | b :: r => by
    rw [behR]
    by_cases h : b.toNat = 255
    · rw [if_pos h, List.reverse_cons, behF_skip h, behR_F r]
    · rw [if_neg h, List.reverse_cons, List.reverse_cons, behF_hit h]
theorem behL_F (l : List UInt8) : behL l = behF l := by unfold behL; rw [behR_F, List.reverse_reverse]
theorem behF_low {c : UInt8} (h : c.toNat < 255) (l : List UInt8) : ∃ y, behF (c :: l) = some y := by
  rw [behF_cons]
  cases behF l with
  | none => exact ⟨_, if_pos h⟩
  | some x => exact ⟨_, rfl⟩
theorem behF_full {l y : List UInt8} (h : behF l = some y) : y ≠ [] := by
  cases l with
  | nil => cases h
  | cons b l =>
    rw [behF_cons] at h
    cases hl : behF l with
    | some x => rw [hl] at h; obtain rfl := Option.some.inj h; simp
    | none =>
      rw [hl] at h
      by_cases hb : b.toNat < 255
      · simp only [if_pos hb] at h; obtain rfl := Option.some.inj h; simp
      · simp only [if_neg hb] at h; cases h
theorem cmp_nn {x y : List UInt8} {b : UInt8} : Lib.compareBytes [] (b :: y) < 0 := by show (-1 : Int) < 0; decide
theorem cmp_cn {x : List UInt8} {b : UInt8} : ¬ Lib.compareBytes (b :: x) [] < 0 := by show ¬ (1 : Int) < 0; decide
theorem pre_cons (a b : UInt8) (x y : List UInt8) : (a :: x).isPrefixOf (b :: y) = (a == b && x.isPrefixOf y) := rfl
theorem u8_ext {a b : UInt8} (h : a.toNat = b.toNat) : a = b := UInt8.toNat_inj.1 h
/-- Where there is none above, all others are below, or begin with it. -/
theorem beh_none : ∀ l : List UInt8, behF l = none → ∀ z, Lib.compareBytes z l < 0 ∨ l.isPrefixOf z = true
  | [], _, z => Or.inr (by cases z <;> rfl)
  | b :: l, h, z => by
    rw [behF_cons] at h
    cases hl : behF l with
    | some x => rw [hl] at h; cases h
    | none =>
      rw [hl] at h
      by_cases hb : b.toNat < 255
      · simp only [if_pos hb] at h; cases h
      · have := b.toNat_lt
        cases z with
        | nil => exact Or.inl (cmp_nn (x := []))
        | cons a z =>
          have ha := a.toNat_lt
          by_cases e : a.toNat < b.toNat
          · left; rw [cmp_lt e]; decide
          · obtain rfl : a = b := u8_ext (by omega)
            rw [cmp_same, pre_cons]
            rcases beh_none l hl z with h1 | h1
            · exact Or.inl h1
            · right; rw [h1]; simp
/-- Below the least text above it is what is below it, or begins with it. -/
theorem beh_iff : ∀ (l y : List UInt8), behF l = some y → ∀ x, (Lib.compareBytes x y < 0 ↔ (Lib.compareBytes x l < 0 ∨ l.isPrefixOf x = true))
  | [], y, h, x => by cases h
  | b :: l, y, h, x => by
    have hbb := b.toNat_lt
    rw [behF_cons] at h
    cases x with
    | nil =>
      have hy : y ≠ [] := by
        cases hl : behF l with
        | some u => rw [hl] at h; obtain rfl := Option.some.inj h; simp
        | none =>
          rw [hl] at h
          by_cases hb : b.toNat < 255
          · simp only [if_pos hb] at h; obtain rfl := Option.some.inj h; simp
          · simp only [if_neg hb] at h; cases h
      cases y with
      | nil => exact absurd rfl hy
      | cons c y => exact ⟨fun _ => Or.inl (cmp_nn (x := [])), fun _ => cmp_nn (x := [])⟩
    | cons a x =>
      have ha := a.toNat_lt
      cases hl : behF l with
      | some u =>
        rw [hl] at h
        obtain rfl := Option.some.inj h
        by_cases e1 : a.toNat < b.toNat
        · rw [cmp_lt e1, cmp_lt e1]; simp
        · by_cases e2 : b.toNat < a.toNat
          · rw [cmp_gt e2, cmp_gt e2, pre_cons]
            have : (b == a) = false := by simp; intro e; subst e; omega
            rw [this]; simp
          · obtain rfl : a = b := u8_ext (by omega)
            rw [cmp_same, cmp_same, pre_cons, beh_iff l u hl x]
            simp
      | none =>
        rw [hl] at h
        by_cases hb : b.toNat < 255
        · simp only [if_pos hb] at h
          obtain rfl := Option.some.inj h
          have hv : (byo (b.toNat + 1)).toNat = b.toNat + 1 := byo_val (by omega)
          by_cases e1 : a.toNat < b.toNat
          · rw [cmp_lt e1, cmp_lt (by omega)]; simp
          · by_cases e2 : b.toNat < a.toNat
            · have : (b == a) = false := by simp; intro e; subst e; omega
              rw [cmp_gt e2, pre_cons, this]
              by_cases e3 : b.toNat + 1 < a.toNat
              · rw [cmp_gt (by omega)]; simp
              · obtain rfl : a = byo (b.toNat + 1) := u8_ext (by omega)
                rw [cmp_same]
                cases x with
                | nil => simp [Lib.compareBytes]
                | cons d x => simp [Lib.compareBytes]
            · obtain rfl : a = b := u8_ext (by omega)
              rw [cmp_same, pre_cons, cmp_lt (by omega)]
              rcases beh_none l hl x with h1 | h1
              · simp [h1]
              · simp [h1]
        · simp only [if_neg hb] at h; cases h
/-- What it begins with is itself, or less than the text. -/
theorem beh_pref : ∀ (l y : List UInt8), behF l = some y → ∀ x, x.isPrefixOf y = true → x = y ∨ (x.isPrefixOf l = true ∧ x.length < l.length)
  | [], y, h, x, _ => by cases h
  | b :: l, y, h, x, hp => by
    cases x with
    | nil => exact Or.inr ⟨rfl, by simp⟩
    | cons a x =>
      rw [behF_cons] at h
      cases hl : behF l with
      | some u =>
        rw [hl] at h
        obtain rfl := Option.some.inj h
        rw [pre_cons, Bool.and_eq_true, beq_iff_eq] at hp
        obtain ⟨rfl, hp⟩ := hp
        rcases beh_pref l u hl x hp with rfl | ⟨h1, h2⟩
        · exact Or.inl rfl
        · exact Or.inr ⟨by rw [pre_cons, h1]; simp, by simpa using h2⟩
      | none =>
        rw [hl] at h
        by_cases hb : b.toNat < 255
        · simp only [if_pos hb] at h
          obtain rfl := Option.some.inj h
          rw [pre_cons, Bool.and_eq_true, beq_iff_eq] at hp
          obtain ⟨rfl, hp⟩ := hp
          cases x with
          | nil => exact Or.inl rfl
          | cons d x => cases hp
        · simp only [if_neg hb] at h; cases h
theorem turnL_cons (b : UInt8) (l : List UInt8) : turnL (b :: l) = byo (255 - b.toNat) :: turnL l := rfl
/-- Turned, what is below is above, and does not begin with it. -/
theorem turn_iff : ∀ (x b : List UInt8), (x.isPrefixOf b = true → x.length = b.length) → (Lib.compareBytes x b < 0 ↔ ¬ (Lib.compareBytes (turnL x) (turnL b) < 0 ∨ (turnL b).isPrefixOf (turnL x) = true))
  | [], [], _ => by simp [turnL, Lib.compareBytes]
  | [], b :: y, h => by have := h rfl; simp at this
  | a :: x, [], _ => by
    have h1 : (turnL ([] : List UInt8)).isPrefixOf (turnL (a :: x)) = true := rfl
    rw [h1]
    have := cmp_cn (x := x) (b := a)
    simp [this]
  | a :: x, b :: y, h => by
    have ha := a.toNat_lt
    have hb := b.toNat_lt
    rw [turnL_cons, turnL_cons]
    have va : (byo (255 - a.toNat)).toNat = 255 - a.toNat := byo_val (by omega)
    have vb : (byo (255 - b.toNat)).toNat = 255 - b.toNat := byo_val (by omega)
    by_cases e1 : a.toNat < b.toNat
    · have : (byo (255 - b.toNat) == byo (255 - a.toNat)) = false := by
        simp only [beq_eq_false_iff_ne, ne_eq]
        intro e
        have := congrArg UInt8.toNat e
        omega
      rw [cmp_lt e1, cmp_gt (by omega), pre_cons, this]
      simp
    · by_cases e2 : b.toNat < a.toNat
      · rw [cmp_gt e2, cmp_lt (by omega)]
        simp
      · obtain rfl : a = b := u8_ext (by omega)
        rw [cmp_same, cmp_same, pre_cons]
        have ih := turn_iff x y (fun hp => by have := h (by rw [pre_cons, hp]; simp); simpa using this)
        rw [ih]
        simp
/-- Between two bounds; the empty upper one is none. -/
def isIn (x lo hi : List UInt8) : Prop := ¬ Lib.compareBytes x lo < 0 ∧ (hi = [] ∨ Lib.compareBytes x hi < 0)
def behG (l : List UInt8) : List UInt8 := (behF l).getD []
theorem turn_in {x lo : List UInt8} {h : UInt8} {hi : List UInt8} (hh : 1 ≤ h.toNat) (h1 : x.isPrefixOf lo = true → x.length = lo.length) (h2 : x.isPrefixOf (h :: hi) = true → x.length = (h :: hi).length) : isIn (turnL x) (behG (turnL (h :: hi))) (behG (turnL lo)) ↔ isIn x lo (h :: hi) := by
  have hb := h.toNat_lt
  have t1 := turn_iff x lo h1
  have t2 := turn_iff x (h :: hi) h2
  obtain ⟨y, hy⟩ := behF_low (c := byo (255 - h.toNat)) (by rw [byo_val (by omega)]; omega) (turnL hi)
  have hy2 : behG (turnL (h :: hi)) = y := by unfold behG; rw [turnL_cons, hy]; rfl
  have i1 := beh_iff _ _ hy (turnL x)
  rw [← turnL_cons] at i1
  rw [hy2]
  unfold isIn
  rw [i1, ← t2]
  have hne : (h :: hi) ≠ [] := by simp
  cases hl : behF (turnL lo) with
  | none =>
    have hG : behG (turnL lo) = [] := by unfold behG; rw [hl]; rfl
    have := beh_none _ hl (turnL x)
    rw [hG, t1]
    constructor
    · rintro ⟨q1, _⟩; exact ⟨fun h => h this, Or.inr q1⟩
    · rintro ⟨_, q2⟩; exact ⟨q2.resolve_left hne, Or.inl rfl⟩
  | some z =>
    have hG : behG (turnL lo) = z := by unfold behG; rw [hl]; rfl
    have i2 := beh_iff _ _ hl (turnL x)
    have hz := behF_full hl
    rw [hG, i2, t1]
    simp only [hz, hne, false_or]
    constructor
    · rintro ⟨q1, q2⟩; exact ⟨fun h => h q2, q1⟩
    · rintro ⟨q1, q2⟩; exact ⟨q2, Classical.not_not.1 q1⟩
end Go.Proofs.YtlfanhlkoepodaaDoor
