/-
  The digits of numbers, and the number at the begin of a text. No program in sight.
-/
import Derived.Test.YtkjcfnmbnddhjaaDoorVaQ
namespace Go.Proofs.YtkjcfnmbnddhjaaDoor
set_option linter.unusedVariables false
set_option linter.unusedSimpArgs false
/-- A digit. -/
def dig (d : Nat) : UInt8 := UInt8.ofNat (48 + d)
theorem dig_val {d : Nat} (h : d < 10) : (dig d).toNat = 48 + d := by unfold dig; rw [UInt8.toNat_ofNat']; omega
def decL (n : Nat) : List UInt8 := if h : n < 10 then [dig n] else decL (n / 10) ++ [dig (n % 10)]
theorem decL_small {n : Nat} (h : n < 10) : decL n = [dig n] := by rw [decL, dif_pos h]
theorem decL_big {n : Nat} (h : ¬ n < 10) : decL n = decL (n / 10) ++ [dig (n % 10)] := by rw [decL, dif_neg h]
/-- The digits of a number. -/
def decB (n : Int) : ByteArray := if n < 0 then strB (45 :: decL (-n).toNat) else strB (decL n.toNat)
theorem decL_len (n : Nat) : ∀ k : Nat, n < 10 ^ (k + 1) → 1 ≤ (decL n).length ∧ (decL n).length ≤ k + 1
  | 0, h => by rw [decL_small (by simpa using h)]; simp
  | k + 1, h => by
    by_cases hs : n < 10
    · rw [decL_small hs]; simp
    · have := decL_len (n / 10) k (by rw [Nat.pow_succ] at h; omega)
      rw [decL_big hs, List.length_append]
      simp
      omega
/-- A byte that is a digit. -/
def isDg (b : UInt8) : Bool := decide (48 ≤ (b.toNat : Int)) && decide ((b.toNat : Int) ≤ 57)
theorem isDg_dig {d : Nat} (h : d < 10) : isDg (dig d) = true := by unfold isDg; rw [dig_val h]; simp; omega
theorem decL_dig (n : Nat) : ∀ b ∈ decL n, isDg b = true := by
  induction n using Nat.strongRecOn with
  | ind n ih =>
    intro b hb
    by_cases hs : n < 10
    · rw [decL_small hs] at hb
      simp at hb
      rw [hb]
      exact isDg_dig hs
    · rw [decL_big hs] at hb
      rcases List.mem_append.1 hb with h | h
      · exact ih (n / 10) (by omega) b h
      · simp at h
        rw [h]
        exact isDg_dig (by omega)
/-- One digit more. -/
def accD (n : Int) (b : UInt8) : Int := min (n * 10 + ((b.toNat : Int) - 48)) 1000000000000000
def numL : List UInt8 → Int → Int
  | [], n => n
  | b :: l, n => if isDg b then numL l (accD n b) else n
theorem numL_cons (b : UInt8) (l : List UInt8) (n : Int) : numL (b :: l) n = if isDg b then numL l (accD n b) else n := rfl
theorem numL_nil (n : Int) : numL [] n = n := rfl
theorem acc_in {n : Int} {b : UInt8} (h0 : 0 ≤ n) (hb : isDg b = true) : 0 ≤ accD n b ∧ accD n b ≤ 1000000000000000 := by
  unfold isDg at hb
  simp at hb
  unfold accD
  omega
theorem numL_in (l : List UInt8) : ∀ n : Int, 0 ≤ n → n ≤ 1000000000000000 → 0 ≤ numL l n ∧ numL l n ≤ 1000000000000000 := by
  induction l with
  | nil => intro n h0 h1; exact ⟨h0, h1⟩
  | cons b l ih =>
    intro n h0 h1
    unfold numL
    split
    · rename_i hb
      have := acc_in h0 hb
      exact ih _ this.1 this.2
    · exact ⟨h0, h1⟩
theorem numL_digs (a l : List UInt8) : ∀ n : Int, (∀ b ∈ a, isDg b = true) → numL (a ++ l) n = numL l (numL a n) := by
  induction a with
  | nil => intro n _; rfl
  | cons b a ih =>
    intro n h
    have hb := h b (by simp)
    rw [List.cons_append, numL_cons, numL_cons, if_pos hb, if_pos hb]
    exact ih _ fun c hc => h c (by simp [hc])
theorem num_dec (n : Nat) (h : n ≤ 1000000000000000) : numL (decL n) 0 = n := by
  induction n using Nat.strongRecOn with
  | ind n ih =>
    by_cases hs : n < 10
    · rw [decL_small hs]
      rw [numL_cons, if_pos (isDg_dig hs), numL_nil]
      unfold accD
      rw [dig_val hs]
      omega
    · rw [decL_big hs, numL_digs _ _ _ (decL_dig _), ih (n / 10) (by omega) (by omega)]
      rw [numL_cons, if_pos (isDg_dig (by omega)), numL_nil]
      unfold accD
      rw [dig_val (by omega)]
      omega
/-- The number at the begin of a text without blanks in front. -/
def sgnL : List UInt8 → Int
  | [] => 0
  | b :: l => if (b.toNat : Int) = 45 then - numL l 0 else if (b.toNat : Int) = 43 then numL l 0 else numL (b :: l) 0
theorem sgnL_cons (b : UInt8) (l : List UInt8) : sgnL (b :: l) = if (b.toNat : Int) = 45 then - numL l 0 else if (b.toNat : Int) = 43 then numL l 0 else numL (b :: l) 0 := rfl
def valI (s : ByteArray) : Int := sgnL (trL s.toList 32)
theorem trL_rep (k : Nat) (l : List UInt8) : trL (List.replicate k 32 ++ l) 32 = trL l 32 := by
  induction k with
  | zero => rfl
  | succ k ih =>
    rw [List.replicate_succ, List.cons_append]
    unfold trL at ih ⊢
    rw [List.dropWhile_cons_of_pos (by decide)]
    exact ih
theorem decL_cons (n : Nat) : ∃ b l, decL n = b :: l ∧ isDg b = true := by
  have hd := decL_dig n
  have hl : decL n ≠ [] := by
    by_cases hs : n < 10
    · rw [decL_small hs]; simp
    · rw [decL_big hs]; simp
  obtain ⟨b, l, e⟩ := List.exists_cons_of_ne_nil hl
  exact ⟨b, l, e, hd b (by rw [e]; simp)⟩
theorem dg_ne {b : UInt8} (h : isDg b = true) : (b.toNat : Int) ≠ 32 ∧ (b.toNat : Int) ≠ 45 ∧ (b.toNat : Int) ≠ 43 ∧ (b.toNat : Int) ≠ 42 := by
  unfold isDg at h
  simp at h
  omega
theorem val_dec (k : Nat) (n : Int) (h0 : -1000000000000000 ≤ n) (h1 : n ≤ 1000000000000000) : valI (strB (List.replicate k 32) ++ decB n) = n := by
  unfold valI
  rw [add_list, strB_toList, trL_rep]
  unfold decB
  by_cases h : n < 0
  · rw [if_pos h, strB_toList]
    have : trL (45 :: decL (-n).toNat) 32 = 45 :: decL (-n).toNat := by unfold trL; rw [List.dropWhile_cons_of_neg (by decide)]
    rw [this]
    rw [sgnL_cons, if_pos (by decide), num_dec _ (by omega)]
    omega
  · rw [if_neg h, strB_toList]
    obtain ⟨b, l, e, hb⟩ := decL_cons n.toNat
    have hn := dg_ne hb
    have ht : trL (decL n.toNat) 32 = decL n.toNat := by rw [e]; unfold trL; rw [List.dropWhile_cons_of_neg (by simp; omega)]
    rw [ht]
    have hs : sgnL (decL n.toNat) = numL (decL n.toNat) 0 := by
      rw [e, sgnL_cons]
      rw [if_neg hn.2.1, if_neg hn.2.2.1]
    rw [hs, num_dec _ (by omega)]
    omega
end Go.Proofs.YtkjcfnmbnddhjaaDoor
