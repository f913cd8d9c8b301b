/-
  What lies between the bounds of a comparison. No program in sight.
-/
import Derived.Test.YtlfanhlkoepodaaDoorKX
namespace Go.Proofs.YtlfanhlkoepodaaDoor
set_option linter.unusedVariables false
set_option linter.unusedSimpArgs false
theorem cmp_zero : ∀ a b : List UInt8, Lib.compareBytes a b = 0 → a = b
  | [], [], _ => rfl
  | [], _ :: _, h => by simp [Lib.compareBytes] at h
  | _ :: _, [], h => by simp [Lib.compareBytes] at h
  | a :: x, b :: y, h => by
    by_cases e1 : a.toNat < b.toNat
    · rw [cmp_lt e1] at h; omega
    · by_cases e2 : b.toNat < a.toNat
      · rw [cmp_gt e2] at h; omega
      · obtain rfl : a = b := u8_ext (by omega)
        rw [cmp_same] at h
        rw [cmp_zero x y h]
theorem pre_refl : ∀ a : List UInt8, a.isPrefixOf a = true
  | [] => rfl
  | a :: x => by rw [pre_cons, pre_refl x]; simp
theorem pre_ge : ∀ b x : List UInt8, b.isPrefixOf x = true → ¬ Lib.compareBytes x b < 0
  | [], [], _ => by decide
  | [], a :: x, _ => cmp_cn
  | b :: y, [], h => by cases h
  | b :: y, a :: x, h => by
    rw [pre_cons, Bool.and_eq_true, beq_iff_eq] at h
    obtain ⟨rfl, h⟩ := h
    rw [cmp_same]
    exact pre_ge y x h
theorem cmp_low : ∀ P x e : List UInt8, Lib.compareBytes x (P ++ e) ≤ 0 → Lib.compareBytes x P < 0 ∨ P.isPrefixOf x = true
  | [], x, e, _ => Or.inr (by cases x <;> rfl)
  | b :: P, [], e, _ => Or.inl (cmp_nn (x := []))
  | b :: P, a :: x, e, h => by
    rw [List.cons_append] at h
    by_cases e1 : a.toNat < b.toNat
    · left; rw [cmp_lt e1]; decide
    · by_cases e2 : b.toNat < a.toNat
      · rw [cmp_gt e2] at h; omega
      · obtain rfl : a = b := u8_ext (by omega)
        rw [cmp_same] at h
        rw [cmp_same, pre_cons]
        rcases cmp_low P x e h with q | q
        · exact Or.inl q
        · right; rw [q]; simp
theorem cmp_top : ∀ P x e : List UInt8, 0 ≤ Lib.compareBytes x (P ++ e) → ¬ Lib.compareBytes x P < 0
  | [], [], e, _ => by decide
  | [], a :: x, e, _ => cmp_cn
  | b :: P, [], e, h => by rw [List.cons_append] at h; have := cmp_nn (x := []) (y := P ++ e) (b := b); omega
  | b :: P, a :: x, e, h => by
    rw [List.cons_append] at h
    by_cases e1 : a.toNat < b.toNat
    · rw [cmp_lt e1] at h; omega
    · by_cases e2 : b.toNat < a.toNat
      · rw [cmp_gt e2]; decide
      · obtain rfl : a = b := u8_ext (by omega)
        rw [cmp_same] at h ⊢
        exact cmp_top P x e h
theorem pre_len : ∀ x b : List UInt8, x.isPrefixOf b = true → x.length ≤ b.length := fun x b h => (List.isPrefixOf_iff_prefix.1 h).length_le
/-- No proper beginning. -/
def NP (x b : List UInt8) : Prop := x.isPrefixOf b = true → x.length = b.length
/-- A key and another one that is no beginning of it. -/
structure Ky (x K : List UInt8) (k : UInt8) : Prop where
  low : 1 ≤ k.toNat
  high : k.toNat ≤ 4
  one : ∃ r, x = k :: r ∧ r ≠ []
  two : ∃ q, K = k :: q
  pf1 : x.isPrefixOf K = true → x = K
  pf2 : K.isPrefixOf x = true → x = K
variable {x K : List UInt8} {k : UInt8}
def nxt (k : UInt8) : UInt8 := byo (k.toNat + 1)
theorem Ky.nxt_val (h : Ky x K k) : (nxt k).toNat = k.toNat + 1 := byo_val (by have := h.high; omega)
theorem Ky.from_ (h : Ky x K k) : ¬ Lib.compareBytes x [k] < 0 := by
  obtain ⟨r, rfl, hr⟩ := h.one
  rw [cmp_same]
  cases r with
  | nil => exact absurd rfl hr
  | cons a r => exact cmp_cn
theorem Ky.to_ (h : Ky x K k) : Lib.compareBytes x [nxt k] < 0 := by
  obtain ⟨r, rfl, hr⟩ := h.one
  rw [cmp_lt (by rw [h.nxt_val]; omega)]
  decide
theorem Ky.beh (h : Ky x K k) : ∃ y, behF K = some y ∧ behG K = y ∧ (∃ c t, y = c :: t ∧ 1 ≤ c.toNat) ∧ (Lib.compareBytes x y < 0 ↔ Lib.compareBytes x K ≤ 0) ∧ NP x y := by
  obtain ⟨q, hq⟩ := h.two
  obtain ⟨y, hy⟩ := behF_low (c := k) (by have := h.high; omega) q
  rw [← hq] at hy
  refine ⟨y, hy, by unfold behG; rw [hy]; rfl, ?_, ?_, ?_⟩
  · have := behF_full hy
    cases y with
    | nil => exact absurd rfl this
    | cons c t =>
      refine ⟨c, t, rfl, ?_⟩
      rw [hq, behF_cons] at hy
      cases hb : behF q with
      | some u => rw [hb] at hy; have := Option.some.inj hy; simp at this; rw [← this.1]; exact h.low
      | none =>
        rw [hb] at hy
        by_cases e : k.toNat < 255
        · simp only [if_pos e] at hy; have := Option.some.inj hy; simp at this; rw [← this.1, byo_val (by omega)]; omega
        · simp only [if_neg e] at hy; cases hy
  · rw [beh_iff K y hy x]
    constructor
    · rintro (h1 | h1)
      · omega
      · rw [h.pf2 h1, cmp_refl]; omega
    · intro h1
      by_cases e : Lib.compareBytes x K = 0
      · right; rw [cmp_zero _ _ e]; exact pre_refl _
      · left; omega
  · intro hp
    rcases beh_pref K y hy x hp with rfl | ⟨h1, h2⟩
    · rfl
    · rw [h.pf1 h1] at h2; omega
theorem Ky.np1 (h : Ky x K k) (c : UInt8) : NP x [c] := by
  obtain ⟨r, rfl, hr⟩ := h.one
  intro hp
  have := pre_len _ _ hp
  cases r with
  | nil => exact absurd rfl hr
  | cons a r => simp at this
theorem Ky.npK (h : Ky x K k) : NP x K := fun hp => by rw [h.pf1 hp]
theorem ne_ {c : UInt8} {t : List UInt8} : (c :: t = []) = False := by simp
theorem Ky.all (h : Ky x K k) : isIn x [k] [nxt k] := ⟨h.from_, Or.inr h.to_⟩
theorem Ky.lt (h : Ky x K k) : isIn x [k] K ↔ Lib.compareBytes x K < 0 := by
  obtain ⟨q, hq⟩ := h.two
  have : K ≠ [] := by rw [hq]; simp
  exact ⟨fun a => a.2.resolve_left this, fun a => ⟨h.from_, Or.inr a⟩⟩
theorem Ky.le (h : Ky x K k) : isIn x [k] (behG K) ↔ Lib.compareBytes x K ≤ 0 := by
  obtain ⟨y, h1, h2, ⟨c, t, rfl, _⟩, h3, _⟩ := h.beh
  rw [h2]
  exact ⟨fun a => h3.1 (a.2.resolve_left (by simp)), fun a => ⟨h.from_, Or.inr (h3.2 a)⟩⟩
theorem Ky.gt (h : Ky x K k) : isIn x (behG K) [nxt k] ↔ 0 < Lib.compareBytes x K := by
  obtain ⟨y, h1, h2, ⟨c, t, rfl, _⟩, h3, _⟩ := h.beh
  rw [h2]
  constructor
  · intro a; have := a.1; rw [h3] at this; omega
  · intro a; exact ⟨by rw [h3]; omega, Or.inr h.to_⟩
theorem Ky.ge (h : Ky x K k) : isIn x K [nxt k] ↔ 0 ≤ Lib.compareBytes x K := by
  constructor
  · intro a; have := a.1; omega
  · intro a; exact ⟨by omega, Or.inr h.to_⟩
theorem Ky.eq (h : Ky x K k) : isIn x K (behG K) ↔ Lib.compareBytes x K = 0 := by
  obtain ⟨y, h1, h2, ⟨c, t, rfl, _⟩, h3, _⟩ := h.beh
  rw [h2]
  constructor
  · intro a; have := a.1; have := h3.1 (a.2.resolve_left (by simp)); omega
  · intro a; exact ⟨by omega, Or.inr (h3.2 (by omega))⟩
/-- The key of a text is the beginning of no other one's. -/
theorem esc_pf {W V : List UInt8} (h : (escL W ++ [0, 0]).isPrefixOf (escL V ++ [0, 0]) = true) : W = V := by
  obtain ⟨r, hr⟩ := List.isPrefixOf_iff_prefix.1 h
  have h1 : (escL W).isPrefixOf (escL V ++ [0, 0]) = true := List.isPrefixOf_iff_prefix.2 ⟨[0, 0] ++ r, by rw [← hr]; simp⟩
  rw [pre_esc] at h1
  obtain ⟨z, rfl⟩ := List.isPrefixOf_iff_prefix.1 h1
  cases z with
  | nil => simp
  | cons b z =>
    exfalso
    rw [escL_app, List.append_assoc, List.append_assoc] at hr
    have hr := List.append_cancel_left hr
    rw [esc_cons] at hr
    by_cases hb : b = 0
    · rw [if_pos hb] at hr
      simp at hr
    · rw [if_neg hb] at hr
      simp at hr
      exact hb hr.1.symm
theorem text_ky (W V : List UInt8) : Ky (byo 4 :: (escL W ++ [0, 0])) (byo 4 :: (escL V ++ [0, 0])) (byo 4) where
  low := by decide
  high := by decide
  one := ⟨_, rfl, by simp⟩
  two := ⟨_, rfl⟩
  pf1 := fun h => by
    rw [pre_cons, Bool.and_eq_true] at h
    rw [esc_pf h.2]
  pf2 := fun h => by
    rw [pre_cons, Bool.and_eq_true] at h
    rw [esc_pf h.2]
theorem same_ky {x K : List UInt8} {k : UInt8} (h1 : 1 ≤ k.toNat) (h2 : k.toNat ≤ 4) {r q : List UInt8} (hx : x = k :: r) (hK : K = k :: q) (hr : r ≠ []) (hl : r.length = q.length) : Ky x K k where
  low := h1
  high := h2
  one := ⟨r, hx, hr⟩
  two := ⟨q, hK⟩
  pf1 := fun h => by
    have hp := List.isPrefixOf_iff_prefix.1 h
    exact hp.eq_of_length (by rw [hx, hK]; simp [hl])
  pf2 := fun h => by
    have hp := List.isPrefixOf_iff_prefix.1 h
    exact (hp.eq_of_length (by rw [hx, hK]; simp [hl])).symm
/-- The texts whose keys begin alike. -/
theorem near_in (W V : List UInt8) : (isIn (byo 4 :: (escL W ++ [0, 0])) (byo 4 :: escL V) (behG (byo 4 :: escL V)) ↔ V.isPrefixOf W = true) ∧ (Lib.compareBytes W V ≤ 0 → isIn (byo 4 :: (escL W ++ [0, 0])) [byo 4] (behG (byo 4 :: escL V))) ∧ (0 ≤ Lib.compareBytes W V → isIn (byo 4 :: (escL W ++ [0, 0])) (byo 4 :: escL V) [nxt (byo 4)]) ∧ NP (byo 4 :: (escL W ++ [0, 0])) (byo 4 :: escL V) ∧ NP (byo 4 :: (escL W ++ [0, 0])) (behG (byo 4 :: escL V)) ∧ (∃ c t, behG (byo 4 :: escL V) = c :: t ∧ 1 ≤ c.toNat) := by
  have hk := text_ky W V
  have hc : Lib.compareBytes (byo 4 :: (escL W ++ [0, 0])) (byo 4 :: escL V ++ [0, 0]) = Lib.compareBytes W V := by
    rw [List.cons_append, cmp_same]; exact (cmp_esc W V).1
  obtain ⟨y, hy⟩ := behF_low (c := byo 4) (by decide) (escL V)
  have hG : behG (byo 4 :: escL V) = y := by unfold behG; rw [hy]; rfl
  have hi := beh_iff _ _ hy (byo 4 :: (escL W ++ [0, 0]))
  have hf := behF_full hy
  have hpre : (byo 4 :: escL V).isPrefixOf (byo 4 :: (escL W ++ [0, 0])) = V.isPrefixOf W := by rw [pre_cons, pre_esc]; simp
  have hno : ¬ (byo 4 :: (escL W ++ [0, 0])).isPrefixOf (byo 4 :: escL V) = true := by
    intro h
    obtain ⟨r, hr⟩ := List.isPrefixOf_iff_prefix.1 h
    have h2 : (byo 4 :: (escL W ++ [0, 0])).isPrefixOf (byo 4 :: (escL V ++ [0, 0])) = true := List.isPrefixOf_iff_prefix.2 ⟨r ++ [0, 0], by rw [← List.append_assoc, hr]; rfl⟩
    have h3 := hk.pf1 h2
    have h4 := pre_len _ _ h
    rw [h3] at h4
    simp at h4
    omega
  rw [hG]
  refine ⟨?_, ?_, ?_, fun h => absurd h hno, ?_, ?_⟩
  · rw [← hpre]
    constructor
    · intro a
      rcases hi.1 (a.2.resolve_left hf) with h1 | h1
      · exact absurd h1 a.1
      · exact h1
    · intro a
      exact ⟨pre_ge _ _ a, Or.inr (hi.2 (Or.inr a))⟩
  · intro h
    exact ⟨hk.from_, Or.inr (hi.2 (cmp_low _ _ [0, 0] (by rw [hc]; exact h)))⟩
  · intro h
    exact ⟨cmp_top _ _ [0, 0] (by rw [hc]; exact h), Or.inr hk.to_⟩
  · intro h
    rcases beh_pref _ _ hy _ h with h1 | h1
    · rw [h1]
    · exact absurd h1.1 hno
  · rw [behF_cons] at hy
    cases hb : behF (escL V) with
    | some u => rw [hb] at hy; exact ⟨_, _, (Option.some.inj hy).symm, by decide⟩
    | none =>
      rw [hb] at hy
      simp only [if_pos (show (byo 4).toNat < 255 by decide)] at hy
      exact ⟨_, _, (Option.some.inj hy).symm, by decide⟩
theorem cmp_take : ∀ (n : Nat) (w v : List UInt8), v.length < n → Lib.compareBytes (w.take n) v = Lib.compareBytes w v
  | 0, w, v, h => by omega
  | n + 1, [], v, _ => rfl
  | n + 1, a :: w, [], _ => rfl
  | n + 1, a :: w, b :: v, h => by
    rw [List.take_succ_cons]
    by_cases e1 : a.toNat < b.toNat
    · rw [cmp_lt e1, cmp_lt e1]
    · by_cases e2 : b.toNat < a.toNat
      · rw [cmp_gt e2, cmp_gt e2]
      · obtain rfl : a = b := u8_ext (by omega)
        rw [cmp_same, cmp_same]
        exact cmp_take n w v (by simpa using h)
theorem cmp_take2 : ∀ (n : Nat) (w v : List UInt8), (Lib.compareBytes w v ≤ 0 → Lib.compareBytes (w.take n) (v.take n) ≤ 0) ∧ (0 ≤ Lib.compareBytes w v → 0 ≤ Lib.compareBytes (w.take n) (v.take n))
  | 0, w, v => by simp [Lib.compareBytes]
  | n + 1, [], [] => by simp
  | n + 1, [], b :: v => by simp [Lib.compareBytes]
  | n + 1, a :: w, [] => by simp [Lib.compareBytes]
  | n + 1, a :: w, b :: v => by
    rw [List.take_succ_cons, List.take_succ_cons]
    by_cases e1 : a.toNat < b.toNat
    · rw [cmp_lt e1, cmp_lt e1]; simp
    · by_cases e2 : b.toNat < a.toNat
      · rw [cmp_gt e2, cmp_gt e2]; simp
      · obtain rfl : a = b := u8_ext (by omega)
        rw [cmp_same, cmp_same]
        exact cmp_take2 n w v
end Go.Proofs.YtlfanhlkoepodaaDoor
