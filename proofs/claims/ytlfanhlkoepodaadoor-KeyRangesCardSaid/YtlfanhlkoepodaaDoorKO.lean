/-
  The order of keys is that of the values. No program in sight.
-/
import Derived.Test.YtlfanhlkoepodaaDoorKR
import Derived.Test.YtlfanhlkoepodaaDoorKVb
namespace Go.Proofs.YtlfanhlkoepodaaDoor
set_option linter.unusedVariables false
set_option linter.unusedSimpArgs false
theorem cmp_rng : ∀ a b : List UInt8, -1 ≤ Lib.compareBytes a b ∧ Lib.compareBytes a b ≤ 1
  | [], [] => by decide
  | [], _ :: _ => by simp [Lib.compareBytes]
  | _ :: _, [] => by simp [Lib.compareBytes]
  | a :: x, b :: y => by
    have := cmp_rng x y
    unfold Lib.compareBytes
    split
    · omega
    · split
      · omega
      · exact this
theorem cmp_app2 : ∀ (x y u v : List UInt8), x.length = y.length → Lib.compareBytes (x ++ u) (y ++ v) = if Lib.compareBytes x y = 0 then Lib.compareBytes u v else Lib.compareBytes x y
  | [], [], u, v, _ => by simp [Lib.compareBytes]
  | [], _ :: _, _, _, h => by simp at h
  | _ :: _, [], _, _, h => by simp at h
  | a :: x, b :: y, u, v, h => by
    have ih := cmp_app2 x y u v (by simpa using h)
    rw [List.cons_append, List.cons_append]
    by_cases h1 : a.toNat < b.toNat
    · rw [cmp_lt h1, cmp_lt h1]; rfl
    · by_cases h2 : b.toNat < a.toNat
      · rw [cmp_gt h2, cmp_gt h2]; rfl
      · obtain rfl : a = b := UInt8.toNat_inj.1 (by omega)
        rw [cmp_same, cmp_same, ih]
theorem cmp_one (a b : UInt8) : Lib.compareBytes [a] [b] = cmpI a.toNat b.toNat := by
  unfold cmpI
  by_cases h1 : a.toNat < b.toNat
  · rw [cmp_lt h1, if_pos (by omega)]
  · by_cases h2 : b.toNat < a.toNat
    · rw [cmp_gt h2, if_neg (by omega), if_pos (by omega)]
    · obtain rfl : a = b := UInt8.toNat_inj.1 (by omega)
      rw [cmp_refl, if_neg (by omega), if_neg (by omega)]
theorem cmp_high (k : Nat) : ∀ n m : Nat, n < 256 ^ k → m < 256 ^ k → Lib.compareBytes (highL n k) (highL m k) = cmpI n m := by
  induction k with
  | zero =>
    intro n m h1 h2
    simp at h1 h2
    subst h1
    subst h2
    rfl
  | succ k ih =>
    intro n m h1 h2
    rw [Nat.pow_succ] at h1 h2
    rw [highL, highL, cmp_app2 _ _ _ _ (by rw [highL_len, highL_len]), ih _ _ (by omega) (by omega), cmp_one, byo_val (by omega), byo_val (by omega)]
    unfold cmpI
    split <;> split <;> split <;> (try split) <;> (try split) <;> (try split) <;> omega
theorem cmp_turn : ∀ x y : List UInt8, x.length = y.length → Lib.compareBytes (turnL x) (turnL y) = - Lib.compareBytes x y
  | [], [], _ => rfl
  | [], _ :: _, h => by simp at h
  | _ :: _, [], h => by simp at h
  | a :: x, b :: y, h => by
    have ih := cmp_turn x y (by simpa using h)
    have ha := a.toNat_lt
    have hb := b.toNat_lt
    show Lib.compareBytes (byo (255 - a.toNat) :: turnL x) (byo (255 - b.toNat) :: turnL y) = _
    by_cases h1 : a.toNat < b.toNat
    · rw [cmp_lt h1, cmp_gt (by rw [byo_val (by omega), byo_val (by omega)]; omega)]; rfl
    · by_cases h2 : b.toNat < a.toNat
      · rw [cmp_gt h2, cmp_lt (by rw [byo_val (by omega), byo_val (by omega)]; omega)]
      · obtain rfl : a = b := UInt8.toNat_inj.1 (by omega)
        rw [cmp_same, cmp_same, ih]
/-- The escaped texts with their ends, as they are and turned. -/
theorem cmp_esc : ∀ s t : List UInt8, Lib.compareBytes (escL s ++ [0, 0]) (escL t ++ [0, 0]) = Lib.compareBytes s t ∧ Lib.compareBytes (turnL (escL s ++ [0, 0])) (turnL (escL t ++ [0, 0])) = - Lib.compareBytes s t
  | [], [] => ⟨rfl, rfl⟩
  | [], b :: t => by
    by_cases hb : b = 0
    · subst hb
      exact ⟨rfl, rfl⟩
    · have h1 : escL (b :: t) = b :: escL t := by rw [escL, if_neg hb]
      have h2 : 0 < b.toNat := by
        rcases Nat.eq_zero_or_pos b.toNat with h | h
        · exact absurd (UInt8.toNat_inj.1 h) hb
        · exact h
      have := b.toNat_lt
      rw [h1]
      constructor
      · exact cmp_lt (a := 0) h2 _ _
      · exact cmp_gt (a := byo 255) (b := byo (255 - b.toNat)) (by rw [byo_val (by omega), byo_val (by omega)]; omega) _ _
  | a :: s, [] => by
    by_cases hb : a = 0
    · subst hb
      exact ⟨rfl, rfl⟩
    · have h1 : escL (a :: s) = a :: escL s := by rw [escL, if_neg hb]
      have h2 : 0 < a.toNat := by
        rcases Nat.eq_zero_or_pos a.toNat with h | h
        · exact absurd (UInt8.toNat_inj.1 h) hb
        · exact h
      have := a.toNat_lt
      rw [h1]
      constructor
      · exact cmp_gt (b := 0) h2 _ _
      · exact cmp_lt (b := byo 255) (a := byo (255 - a.toNat)) (by rw [byo_val (by omega), byo_val (by omega)]; omega) _ _
  | a :: s, b :: t => by
    have ih := cmp_esc s t
    have ha := a.toNat_lt
    have hb := b.toNat_lt
    by_cases e : a = b
    · subst e
      rw [cmp_same]
      by_cases h0 : a = 0
      · subst h0
        exact ih
      · have h1 : ∀ l, escL (a :: l) = a :: escL l := by intro l; rw [escL, if_neg h0]
        rw [h1, h1]
        refine ⟨?_, ?_⟩
        · rw [List.cons_append, List.cons_append, cmp_same]
          exact ih.1
        · rw [List.cons_append, List.cons_append]
          show Lib.compareBytes (byo (255 - a.toNat) :: _) (byo (255 - a.toNat) :: _) = _
          rw [cmp_same]
          exact ih.2
    · have hne : a.toNat ≠ b.toNat := fun h => e (UInt8.toNat_inj.1 h)
      have hd : ∀ (x : UInt8) (l : List UInt8), ∃ r, escL (x :: l) ++ [0, 0] = x :: r := by
        intro x l
        unfold escL
        split
        · rename_i h; subst h; exact ⟨_, rfl⟩
        · exact ⟨_, rfl⟩
      obtain ⟨r, hr⟩ := hd a s
      obtain ⟨q, hq⟩ := hd b t
      rw [hr, hq]
      have ht : ∀ (x : UInt8) (l : List UInt8), turnL (x :: l) = byo (255 - x.toNat) :: turnL l := fun _ _ => rfl
      rw [ht, ht]
      rcases Nat.lt_or_ge a.toNat b.toNat with h | h
      · rw [cmp_lt h, cmp_lt h, cmp_gt (by rw [byo_val (by omega), byo_val (by omega)]; omega)]
        exact ⟨rfl, rfl⟩
      · have h : b.toNat < a.toNat := by omega
        rw [cmp_gt h, cmp_gt h, cmp_lt (by rw [byo_val (by omega), byo_val (by omega)]; omega)]
        exact ⟨rfl, rfl⟩
/-- The escaped texts: of which one begins with which. -/
theorem pre_esc : ∀ s t : List UInt8, (escL s).isPrefixOf (escL t ++ [0, 0]) = s.isPrefixOf t
  | [], _ => by simp [escL]
  | a :: s, [] => by
    by_cases h0 : a = 0
    · subst h0
      rfl
    · rw [show escL (a :: s) = a :: escL s by rw [escL, if_neg h0]]
      show (a == 0 && _) = _
      have : (a == 0) = false := by simpa using h0
      rw [this]
      rfl
  | a :: s, b :: t => by
    have ih : (escL s).isPrefixOf ((escL t).append [0, 0]) = s.isPrefixOf t := pre_esc s t
    by_cases e : a = b
    · subst e
      by_cases h0 : a = 0
      · subst h0
        show (_ && (_ && _)) = (_ && _)
        rw [ih]
        rfl
      · have h1 : ∀ l, escL (a :: l) = a :: escL l := by intro l; rw [escL, if_neg h0]
        rw [h1, h1]
        show (_ && _) = (_ && _)
        rw [ih]
    · have hb : (a == b) = false := by simpa using e
      have hd : ∀ (x : UInt8) (l : List UInt8), ∃ r, escL (x :: l) = x :: r := by
        intro x l
        unfold escL
        split
        · rename_i h; subst h; exact ⟨_, rfl⟩
        · exact ⟨_, rfl⟩
      obtain ⟨r, hr⟩ := hd a s
      obtain ⟨q, hq⟩ := hd b t
      rw [hr, hq]
      show (a == b && _) = (a == b && _)
      rw [hb]
      rfl
end Go.Proofs.YtlfanhlkoepodaaDoor
