/-
  Numbers of bytes as the program reads them (they wrap), and the values of keys. No program in sight but the kinds of values.
-/
import Derived.Test.YtlfanhlkoepodaaDoorKR
import Derived.WalkKit
namespace Go.Proofs.YtlfanhlkoepodaaDoor
set_option linter.unusedVariables false
set_option linter.unusedSimpArgs false
def w64 (x : Int) : Int := IntKind.i64.wrap x
theorem w64_eq (x : Int) : w64 x = if x % 18446744073709551616 < 9223372036854775808 then x % 18446744073709551616 else x % 18446744073709551616 - 18446744073709551616 := by
  unfold w64
  simp [IntKind.wrap, IntKind.bits, IntKind.signed]
  by_cases h : x % 18446744073709551616 < 9223372036854775808
  · rw [if_pos h, if_neg (by omega)]
  · rw [if_neg h, if_pos (by omega)]
theorem w64_64 (x : Int) : Go.RowKit.wrap64 x = w64 x := by rw [w64_eq]; unfold Go.RowKit.wrap64; split <;> omega
theorem w64_in {x : Int} (h1 : -9223372036854775808 ≤ x) (h2 : x < 9223372036854775808) : w64 x = x := by rw [w64_eq]; split <;> omega
theorem w64_rng (x : Int) : -9223372036854775808 ≤ w64 x ∧ w64 x < 9223372036854775808 := by rw [w64_eq]; split <;> omega
theorem or_i64 (m c : Nat) (hc : c < 256) : bits .or .i64 (w64 ((m : Int) * 256)) (c : Int) = w64 ((m : Int) * 256 + c) := by
  unfold bits
  have e1 : BitVec.ofInt 64 (w64 ((m : Int) * 256)) = BitVec.ofNat 64 (2 ^ 8 * m) := by
    apply BitVec.eq_of_toNat_eq
    rw [BitVec.toNat_ofInt, BitVec.toNat_ofNat, w64_eq]
    split <;> omega
  have e2 : BitVec.ofInt 64 (c : Int) = BitVec.ofNat 64 c := by
    apply BitVec.eq_of_toNat_eq
    rw [BitVec.toNat_ofInt, BitVec.toNat_ofNat]
    omega
  show IntKind.i64.wrap ((BitVec.ofInt 64 (w64 ((m : Int) * 256)) ||| BitVec.ofInt 64 (c : Int)).toNat : Int) = _
  rw [e1, e2]
  have e3 : (BitVec.ofNat 64 (2 ^ 8 * m) ||| BitVec.ofNat 64 c).toNat = (2 ^ 8 * m + c) % 2 ^ 64 := by
    rw [BitVec.toNat_or, BitVec.toNat_ofNat, BitVec.toNat_ofNat, Nat.mod_eq_of_lt (a := c) (by omega)]
    have : 2 ^ 8 * m % 2 ^ 64 = 2 ^ 8 * (m % 2 ^ 56) := by omega
    rw [this, ← Nat.two_pow_add_eq_or_of_lt (i := 8) hc]
    omega
  rw [e3]
  show w64 _ = _
  rw [w64_eq, w64_eq]
  split <;> split <;> omega
theorem beN_go : ∀ (l : List UInt8) (a : Nat), l.foldl (fun n b => n * 256 + b.toNat) a < (a + 1) * 256 ^ l.length
  | [], a => by simp
  | b :: l, a => by
    have h := beN_go l (a * 256 + b.toNat)
    have hb := b.toNat_lt
    rw [List.foldl_cons, List.length_cons, Nat.pow_succ, Nat.mul_comm (256 ^ l.length), ← Nat.mul_assoc]
    exact Nat.lt_of_lt_of_le h (Nat.mul_le_mul_right _ (by omega))
theorem beN_lt (l : List UInt8) : beN l < 256 ^ l.length := by
  have := beN_go l 0
  unfold beN
  omega
theorem beN_lt7 {l : List UInt8} (h : l.length ≤ 7) : beN l < 72057594037927936 := by
  have h1 := beN_lt l
  have h2 : 256 ^ l.length ≤ 256 ^ 7 := Nat.pow_le_pow_right (by omega) h
  omega
theorem beN_lt8 {l : List UInt8} (h : l.length ≤ 8) : beN l < 18446744073709551616 := by
  have h1 := beN_lt l
  have h2 : 256 ^ l.length ≤ 256 ^ 8 := Nat.pow_le_pow_right (by omega) h
  omega
/-- The number of eight bytes, less the offset: it wraps to no number that is one. -/
theorem num_wrap {b : Nat} (h : b < 18446744073709551616) : isNumB (w64 (w64 (b : Int) - 1000000000000000)) = isNumB ((b : Int) - 1000000000000000) ∧ (isNumB ((b : Int) - 1000000000000000) = true → w64 (w64 (b : Int) - 1000000000000000) = (b : Int) - 1000000000000000) := by
  have e1 := w64_eq (b : Int)
  have e2 := w64_eq (w64 (b : Int) - 1000000000000000)
  constructor
  · unfold isNumB
    rw [Bool.eq_iff_iff]
    simp only [Bool.and_eq_true, decide_eq_true_eq]
    split at e1 <;> split at e2 <;> omega
  · intro hn
    have := isNum_iff.1 hn
    split at e1 <;> split at e2 <;> omega
/-- How many bytes a key has. -/
theorem cutT_len : ∀ (n : Nat) (l acc : List UInt8) (pos : Nat) (t : List UInt8) (q : Nat), l.length ≤ n → cutT acc pos l = some (t, q) → pos + 2 ≤ q ∧ q ≤ pos + l.length ∧ t.length ≤ 48
  | _, [], acc, pos, t, q, _, h => by rw [cutT_nil] at h; cases h
  | _, [b], acc, pos, t, q, _, h => by rw [cutT_one] at h; cases h
  | 0, b :: d :: l, acc, pos, t, q, hn, h => by simp at hn
  | n + 1, b :: d :: l, acc, pos, t, q, hn, h => by
    rw [cutT_two] at h
    simp only [List.length_cons] at hn ⊢
    split at h
    · have := cutT_len n (d :: l) _ _ t q (by simp; omega) h
      simp only [List.length_cons] at this
      omega
    · split at h
      · cases h
      · split at h
        · have := cutT_len n l _ _ t q (by omega) h
          omega
        · split at h
          · cases h
          · injection h with h
            injection h with h1 h2
            subst h1
            omega
theorem cutS_len {l : List UInt8} {v : Int × Int × List UInt8} {q : Nat} (h : cutS l = some (v, q)) : 1 ≤ q ∧ q ≤ l.length ∧ v.2.2.length ≤ 48 := by
  cases l with
  | nil => cases h
  | cons b r =>
    rw [cutS_cons] at h
    simp only [List.length_cons]
    split at h
    · injection h with h
      injection h with h1 h2
      subst h1
      subst h2
      simp
    · split at h
      · cases hc : cutT [] 1 r with
        | none => rw [hc] at h; cases h
        | some x =>
          rw [hc] at h
          obtain ⟨t, p⟩ := x
          have := cutT_len _ r [] 1 t p (Nat.le_refl _) hc
          injection h with h
          injection h with h1 h2
          subst h1
          subst h2
          simp only
          omega
      · split at h
        · cases h
        · rename_i hs
          split at h
          · injection h with h
            injection h with h1 h2
            subst h1
            subst h2
            simp
            omega
          · cases h
theorem beN_ge : ∀ (l : List UInt8) (a : Nat), a * 256 ^ l.length ≤ l.foldl (fun n b => n * 256 + b.toNat) a
  | [], a => by simp
  | b :: l, a => by
    have h := beN_ge l (a * 256 + b.toNat)
    rw [List.foldl_cons, List.length_cons, Nat.pow_succ, Nat.mul_comm (256 ^ l.length), ← Nat.mul_assoc]
    exact Nat.le_trans (Nat.mul_le_mul_right _ (by omega)) h
theorem beN_first {b : UInt8} {l : List UInt8} (h : l.length = 7) : b.toNat * 72057594037927936 ≤ beN (b :: l) ∧ beN (b :: l) < (b.toNat + 1) * 72057594037927936 := by
  have h1 := beN_ge l b.toNat
  have h2 := beN_go l b.toNat
  rw [h] at h1 h2
  have e : beN (b :: l) = l.foldl (fun n b => n * 256 + b.toNat) b.toNat := by
    unfold beN
    rw [List.foldl_cons, Nat.zero_mul, Nat.zero_add]
  rw [← e] at h1 h2
  obtain ⟨P, hP⟩ : ∃ P : Nat, P = 256 ^ 7 := ⟨_, rfl⟩
  rw [← hP] at h1 h2
  have hP' : P = 72057594037927936 := by rw [hP]
  rw [← hP']
  exact ⟨h1, h2⟩
theorem first8 (s : ByteArray) (h : ¬ s.size < 1 + 8) : (s[1]'(by omega)).toNat * 72057594037927936 ≤ beN ((s.toList.drop 1).take 8) ∧ beN ((s.toList.drop 1).take 8) < ((s[1]'(by omega)).toNat + 1) * 72057594037927936 := by
  rw [drop_byte s (show 1 < s.size by omega), List.take_succ_cons]
  exact beN_first (by rw [List.length_take, List.length_drop, len_toList]; omega)
theorem num_no {b : Nat} (h : 9223372036854775808 ≤ b) : isNumB ((b : Int) - 1000000000000000) = false := by
  unfold isNumB
  rw [Bool.and_eq_false_iff]
  right
  simp
  omega
/-- The value that has a key. -/
def decL (l : List UInt8) : Option (Int × Int × List UInt8) := match cutS l with | some (v, q) => if q = l.length then some v else none | none => none
theorem decL_n {l : List UInt8} (h : cutS l = none) : decL l = none := by unfold decL; rw [h]
theorem decL_x {l : List UInt8} {v : Int × Int × List UInt8} {q : Nat} (h : cutS l = some (v, q)) (hq : q ≠ l.length) : decL l = none := by unfold decL; rw [h]; exact if_neg hq
theorem decL_s {l : List UInt8} {v : Int × Int × List UInt8} {q : Nat} (h : cutS l = some (v, q)) (hq : q = l.length) : decL l = some v := by unfold decL; rw [h]; exact if_pos hq
end Go.Proofs.YtlfanhlkoepodaaDoor
