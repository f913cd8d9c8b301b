import Derived.Test.YtffcaoicokookaaT25
namespace Go.Proofs.Ytffcaoicokookaa
open Go.RowKit
set_option linter.unusedVariables false
set_option linter.unusedSimpArgs false

def b2i (b : Bool) : Int := if b then 1 else 0
theorem b2i_in (b : Bool) : 0 ≤ b2i b ∧ b2i b ≤ 1 := by cases b <;> simp [b2i]
def bvB (c : Nat → Bool) : Int := b2i (c 0) + 2 * b2i (c 1) + 4 * b2i (c 2) + 8 * b2i (c 3) + 16 * b2i (c 4) + 32 * b2i (c 5) + 64 * b2i (c 6) + 128 * b2i (c 7)
theorem eight {b : Nat} (h : b < 8) : b = 0 ∨ b = 1 ∨ b = 2 ∨ b = 3 ∨ b = 4 ∨ b = 5 ∨ b = 6 ∨ b = 7 := by omega
theorem bvB_in (c : Nat → Bool) : 0 ≤ bvB c ∧ bvB c ≤ 255 := by
  have h0 := b2i_in (c 0); have h1 := b2i_in (c 1); have h2 := b2i_in (c 2); have h3 := b2i_in (c 3)
  have h4 := b2i_in (c 4); have h5 := b2i_in (c 5); have h6 := b2i_in (c 6); have h7 := b2i_in (c 7)
  unfold bvB
  omega
theorem bvB_bit (c : Nat → Bool) {b : Nat} (h : b < 8) : bvB c / 2 ^ b % 2 = b2i (c b) := by
  have h0 := b2i_in (c 0); have h1 := b2i_in (c 1); have h2 := b2i_in (c 2); have h3 := b2i_in (c 3)
  have h4 := b2i_in (c 4); have h5 := b2i_in (c 5); have h6 := b2i_in (c 6); have h7 := b2i_in (c 7)
  unfold bvB
  rcases eight h with rfl | rfl | rfl | rfl | rfl | rfl | rfl | rfl
  · rw [show (2 : Int) ^ 0 = 1 from rfl]; omega
  · rw [show (2 : Int) ^ 1 = 2 from rfl]; omega
  · rw [show (2 : Int) ^ 2 = 4 from rfl]; omega
  · rw [show (2 : Int) ^ 3 = 8 from rfl]; omega
  · rw [show (2 : Int) ^ 4 = 16 from rfl]; omega
  · rw [show (2 : Int) ^ 5 = 32 from rfl]; omega
  · rw [show (2 : Int) ^ 6 = 64 from rfl]; omega
  · rw [show (2 : Int) ^ 7 = 128 from rfl]; omega
theorem bvB_set (c d : Nat → Bool) {b : Nat} (h : b < 8) (h0 : c b = false) (h1 : d b = true) (hd : ∀ i, i < 8 → i ≠ b → d i = c i) : bvB d = bvB c + 2 ^ b := by
  unfold bvB
  rcases eight h with rfl | rfl | rfl | rfl | rfl | rfl | rfl | rfl <;>
  (first | rw [hd 0 (by omega) (by omega)] | skip) <;> (first | rw [hd 1 (by omega) (by omega)] | skip) <;> (first | rw [hd 2 (by omega) (by omega)] | skip) <;> (first | rw [hd 3 (by omega) (by omega)] | skip) <;>
  (first | rw [hd 4 (by omega) (by omega)] | skip) <;> (first | rw [hd 5 (by omega) (by omega)] | skip) <;> (first | rw [hd 6 (by omega) (by omega)] | skip) <;> (first | rw [hd 7 (by omega) (by omega)] | skip) <;>
  rw [h0, h1] <;> simp [b2i] <;> omega
theorem bvB_same (c d : Nat → Bool) (hd : ∀ i, i < 8 → d i = c i) : bvB d = bvB c := by
  unfold bvB
  rw [hd 0 (by omega), hd 1 (by omega), hd 2 (by omega), hd 3 (by omega), hd 4 (by omega), hd 5 (by omega), hd 6 (by omega), hd 7 (by omega)]
def mbit (s : List Int) (i b : Nat) : Bool := decide ((8 * (i : Int) + (b : Int) + 1) ∈ s)
def mbyte (s : List Int) (i : Nat) : Int := bvB (mbit s i)
theorem mbyte_in (s : List Int) (i : Nat) : 0 ≤ mbyte s i ∧ mbyte s i ≤ 255 := bvB_in _
def mapL (s : List Int) (m : Nat) : List UInt8 := (List.range m).map fun i => bOf (mbyte s i)
theorem mapL_len (s : List Int) (m : Nat) : (mapL s m).length = m := by simp [mapL]
theorem mapL_at (s : List Int) (m i : Nat) (h : i < m) : (bytesC (mapL s m))[i]? = some (.int .u8 (mbyte s i)) := by
  have := mbyte_in s i
  simp [bytesC, mapL, h, byt, bOf_val _ this.1 this.2]
theorem bth_map (s : List Int) (m i : Nat) (h : i < m) : bth (mapL s m) i = mbyte s i := by
  have := mbyte_in s i
  simp [bth, mapL, h, List.getD, bOf_val _ this.1 this.2]
theorem mapL_nil (m : Nat) : bytesC (mapL [] m) = List.replicate m (.int .u8 0) := by
  apply List.ext_getElem?
  intro i
  by_cases h : i < m
  · rw [mapL_at _ _ _ h, List.getElem?_replicate, if_pos h]
    rfl
  · rw [List.getElem?_eq_none (by simp [bytesC, mapL]; omega), List.getElem?_eq_none (by simp; omega)]
theorem mbyte_other (s : List Int) (j i : Nat) (h : i ≠ j / 8) : mbyte (s ++ [(j : Int) + 1]) i = mbyte s i := by
  refine bvB_same _ _ fun b hb => ?_
  unfold mbit
  rw [decide_eq_decide]
  simp only [List.mem_append, List.mem_singleton]
  constructor
  · rintro (h' | h')
    · exact h'
    · exfalso; omega
  · exact Or.inl
theorem mbyte_here (s : List Int) (j : Nat) (h : ((j : Int) + 1) ∉ s) : mbyte (s ++ [(j : Int) + 1]) (j / 8) = mbyte s (j / 8) + 2 ^ (j % 8) := by
  refine bvB_set _ _ (by omega) ?_ ?_ fun b hb hne => ?_
  · unfold mbit
    rw [decide_eq_false_iff_not, show (8 * ((j / 8 : Nat) : Int) + ((j % 8 : Nat) : Int) + 1) = (j : Int) + 1 by omega]
    exact h
  · unfold mbit
    rw [decide_eq_true_iff, show (8 * ((j / 8 : Nat) : Int) + ((j % 8 : Nat) : Int) + 1) = (j : Int) + 1 by omega]
    simp
  · unfold mbit
    rw [decide_eq_decide]
    simp only [List.mem_append, List.mem_singleton]
    constructor
    · rintro (h' | h')
      · exact h'
      · exfalso; omega
    · exact Or.inl
theorem mapL_set (s : List Int) (m j : Nat) (hj : j / 8 < m) (h : ((j : Int) + 1) ∉ s) : (bytesC (mapL s m)).set (j / 8) (.int .u8 (mbyte s (j / 8) + 2 ^ (j % 8))) = bytesC (mapL (s ++ [(j : Int) + 1]) m) := by
  apply List.ext_getElem?
  intro i
  rw [List.getElem?_set]
  by_cases hi : j / 8 = i
  · subst hi
    rw [if_pos rfl, mapL_at _ _ _ hj, mbyte_here s j h, if_pos (by simp [bytesC, mapL]; exact hj)]
  · rw [if_neg hi]
    by_cases hm : i < m
    · rw [mapL_at _ _ _ hm, mapL_at _ _ _ hm, mbyte_other s j i (by omega)]
    · rw [List.getElem?_eq_none (by simp [bytesC, mapL]; omega), List.getElem?_eq_none (by simp [bytesC, mapL]; omega)]
theorem or_free : ∀ X : Fin 256, ∀ b : Fin 8, ((X.val : Int) / 2 ^ b.val % 2 = 0) → bits BinOp.or IntKind.u8 (X.val : Int) (2 ^ b.val) = (X.val : Int) + 2 ^ b.val ∧ (X.val : Int) + 2 ^ b.val ≤ 255 := by decide +kernel
theorem or_add (s : List Int) (j : Nat) (h : ((j : Int) + 1) ∉ s) : bits BinOp.or IntKind.u8 (mbyte s (j / 8)) (2 ^ (j % 8)) = mbyte s (j / 8) + 2 ^ (j % 8) ∧ 0 ≤ mbyte s (j / 8) + 2 ^ (j % 8) ∧ mbyte s (j / 8) + 2 ^ (j % 8) ≤ 255 := by
  have hb := bvB_bit (mbit s (j / 8)) (b := j % 8) (by omega)
  have h0 : mbit s (j / 8) (j % 8) = false := by
    unfold mbit
    rw [decide_eq_false_iff_not, show (8 * ((j / 8 : Nat) : Int) + ((j % 8 : Nat) : Int) + 1) = (j : Int) + 1 by omega]
    exact h
  rw [h0] at hb
  have hi := mbyte_in s (j / 8)
  unfold mbyte at *
  generalize bvB (mbit s (j / 8)) = X at *
  obtain ⟨Y, rfl⟩ := Int.eq_ofNat_of_zero_le hi.1
  have := or_free ⟨Y, by omega⟩ ⟨j % 8, by omega⟩ (by simpa [b2i] using hb)
  refine ⟨this.1, ?_, this.2⟩
  have : (0 : Int) ≤ 2 ^ (j % 8) := Int.le_of_lt (Int.pow_pos (by decide))
  omega
theorem bitv_map (s : List Int) (m j : Nat) (h : j < 8 * m) : bitv (mapL s m) j = decide (((j : Int) + 1) ∈ s) := by
  unfold bitv
  rw [bth_map s m _ (by omega)]
  unfold mbyte
  rw [bvB_bit _ (by omega)]
  unfold mbit
  rw [show (8 * ((j / 8 : Nat) : Int) + ((j % 8 : Nat) : Int) + 1) = (j : Int) + 1 by omega]
  by_cases hm : ((j : Int) + 1) ∈ s <;> simp [hm, b2i]
/-- What is set in a map, in order, is the set. -/
theorem umTo_map (s : List Int) (m : Nat) (hs : s.Pairwise (· < ·)) : ∀ k, k ≤ 8 * m → (∀ y ∈ s, 1 ≤ y) → umTo (mapL s m) k = s.filter (fun y => decide (y ≤ (k : Int)))
  | 0, _, hp => by
    symm
    rw [umTo, List.filter_eq_nil_iff]
    intro y hy
    have := hp y hy
    simp; omega
  | k + 1, hk, hp => by
    have ih := umTo_map s m hs k (by omega) hp
    have hb := bitv_map s m k (by omega)
    have split : ∀ (t : List Int), t.Pairwise (· < ·) → t.filter (fun y => decide (y ≤ ((k + 1 : Nat) : Int))) = t.filter (fun y => decide (y ≤ (k : Int))) ++ (if ((k : Int) + 1) ∈ t then [(k : Int) + 1] else []) := by
      intro t ht
      induction t with
      | nil => simp
      | cons z t ih =>
        rw [List.pairwise_cons] at ht
        have ih := ih ht.2
        rw [List.filter_cons, List.filter_cons, ih]
        by_cases h1 : z ≤ (k : Int)
        · have e1 : decide (z ≤ ((k + 1 : Nat) : Int)) = true := by simp; omega
          have e2 : decide (z ≤ (k : Int)) = true := by simpa using h1
          have e3 : (((k : Int) + 1) ∈ z :: t) = (((k : Int) + 1) ∈ t) := by
            rw [List.mem_cons, eq_iff_iff]
            exact ⟨fun h => h.resolve_left (by omega), Or.inr⟩
          rw [if_pos e1, if_pos e2]
          simp only [e3, List.cons_append]
        · have e2 : decide (z ≤ (k : Int)) = false := by simpa using h1
          have hnil : t.filter (fun y => decide (y ≤ (k : Int))) = [] := by
            rw [List.filter_eq_nil_iff]
            intro y hy
            have := ht.1 y hy
            simp; omega
          have hnot : ((k : Int) + 1) ∉ t := by intro hy; have := ht.1 _ hy; omega
          by_cases h2 : z = (k : Int) + 1
          · have e1 : decide (z ≤ ((k + 1 : Nat) : Int)) = true := by simp; omega
            have e3 : ((k : Int) + 1) ∈ z :: t := by rw [h2]; simp
            rw [if_pos e3, hnil, if_neg hnot, if_pos e1, if_neg (by rw [e2]; simp), h2]
            rfl
          · have e1 : decide (z ≤ ((k + 1 : Nat) : Int)) = false := by simp; omega
            have e3 : ¬ ((k : Int) + 1) ∈ z :: t := by
              rw [List.mem_cons]
              rintro (h | h)
              · exact h2 h.symm
              · exact hnot h
            rw [if_neg e3, hnil, if_neg hnot, if_neg (by rw [e1]; simp), if_neg (by rw [e2]; simp)]
    rw [split s hs]
    by_cases hm : ((k : Int) + 1) ∈ s
    · rw [umTo_yes _ _ (by rw [hb]; simpa using hm), ih, if_pos hm]
    · rw [umTo_no _ _ (by rw [hb]; simpa using hm), ih, if_neg hm]; simp
theorem isSetS_pair {N : Int} {l : List Int} (h : isSetS N l = true) : l.Pairwise (· < ·) := by
  have hstep : ∀ d k, k + d + 1 < l.length → nth l k < nth l (k + d + 1) := by
    intro d
    induction d with
    | zero => intro k hk; have := (isSetS_at h (k := k + 1) (by omega)).2.2 (by omega); simpa using this
    | succ d ih => intro k hk; have h1 := ih k (by omega); have h2 := (isSetS_at h (k := k + d + 1 + 1) (by omega)).2.2 (by omega); rw [show k + d + 1 + 1 - 1 = k + d + 1 by omega] at h2; rw [show k + (d + 1) + 1 = k + d + 1 + 1 by omega]; omega
  rw [List.pairwise_iff_getElem]
  intro i j hi hj hij
  have := hstep (j - i - 1) i (by omega)
  rw [show i + (j - i - 1) + 1 = j by omega] at this
  rw [nth_lt hi, nth_lt hj] at this
  exact this
end Go.Proofs.Ytffcaoicokookaa
