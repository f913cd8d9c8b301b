/-
  The values of keys. No program in sight but the kinds of values.
-/
import Derived.Test.YtlfanhlkoepodaaDoorKQ
import Derived.Test.YtlfanhlkoepodaaDoorKVb
namespace Go.Proofs.YtlfanhlkoepodaaDoor
set_option linter.unusedVariables false
set_option linter.unusedSimpArgs false
theorem emp_list : ByteArray.empty.toList = [] := by rw [ByteArray.toList_eq]; rfl
def sizeK (k : Nat) : Nat := if k = 1 then 1 else if k = 2 then 8 else if k = 3 then 4 else 0
def numK (k : Nat) (r : List UInt8) : Int := if k = 2 then (beN (r.take 8) : Int) - 1000000000000000 else (beN (r.take (sizeK k)) : Int)
/-- The value of the first key in bytes, and how many these are. -/
def cutS : List UInt8 → Option ((Int × Int × List UInt8) × Nat)
  | [] => none
  | b :: r => if b.toNat = 0 then some ((0, 0, []), 1) else if b.toNat = 4 then (cutT [] 1 r).map fun x => ((4, 0, x.1), x.2)
    else if sizeK b.toNat = 0 ∨ r.length < sizeK b.toNat then none
    else if isV b.toNat (numK b.toNat r) ByteArray.empty then some (((b.toNat : Int), numK b.toNat r, []), 1 + sizeK b.toNat) else none
theorem cutS_cons (b : UInt8) (r : List UInt8) : cutS (b :: r) = if b.toNat = 0 then some ((0, 0, []), 1) else if b.toNat = 4 then (cutT [] 1 r).map fun x => ((4, 0, x.1), x.2)
    else if sizeK b.toNat = 0 ∨ r.length < sizeK b.toNat then none
    else if isV b.toNat (numK b.toNat r) ByteArray.empty then some (((b.toNat : Int), numK b.toNat r, []), 1 + sizeK b.toNat) else none := rfl
/-- The key of a value; t: the weights of its text. -/
def keyL (k n : Int) (t : List UInt8) : List UInt8 := byo k.toNat :: (if k = 1 then highL n.toNat 1 else if k = 2 then highL (n + 1000000000000000).toNat 8 else if k = 3 then highL n.toNat 4 else if k = 4 then escL t ++ [0, 0] else [])
theorem keyL_len (k n : Int) (t : List UInt8) (h : t.length ≤ 48) : (keyL k n t).length ≤ 99 := by
  unfold keyL
  have := escL_len t
  rw [List.length_cons]
  split
  · rw [highL_len]; omega
  split
  · rw [highL_len]; omega
  split
  · rw [highL_len]; omega
  split
  · rw [List.length_append]; simp; omega
  · simp
theorem take_app {a r : List UInt8} {n : Nat} (h : a.length = n) : (a ++ r).take n = a := by rw [← h, List.take_left]
theorem cut_num {k : Nat} {n m : Int} {r : List UInt8} (h0 : k = 1 ∨ k = 2 ∨ k = 3) (hm : 0 ≤ m) (hb : m.toNat < 256 ^ sizeK k) (hn : n = if k = 2 then m - 1000000000000000 else m) (hv : isV k n ByteArray.empty = true) :
    cutS (byo k :: (highL m.toNat (sizeK k) ++ r)) = some (((k : Int), n, []), 1 + sizeK k) := by
  have hk : (byo k).toNat = k := byo_val (by omega)
  have hs : sizeK k ≠ 0 := by unfold sizeK; rcases h0 with rfl | rfl | rfl <;> decide
  have hnum : numK k (highL m.toNat (sizeK k) ++ r) = n := by
    rw [hn]
    unfold numK
    have e : beN ((highL m.toNat (sizeK k) ++ r).take (sizeK k)) = m.toNat := by rw [take_app (highL_len _ _), beN_high, Nat.mod_eq_of_lt hb]
    split
    · rename_i h2
      subst h2
      rw [show (8 : Nat) = sizeK 2 from rfl, e]
      omega
    · rw [e]
      omega
  rw [cutS_cons, hk, if_neg (by omega), if_neg (by omega), if_neg (by rw [List.length_append, highL_len]; omega), hnum, if_pos hv]
/-- The value of a key of a value. -/
theorem cut_key {k n : Int} {s : ByteArray} {t : List UInt8} (hv : valE k n s = 0) (ht : t.length ≤ 48) (r : List UInt8) :
    cutS (keyL k n t ++ r) = some ((k, n, if k = 4 then t else []), (keyL k n t).length) := by
  have hi := val_is hv
  rcases val_kinds hv with rfl | ⟨rfl, hn⟩ | ⟨rfl, hn⟩ | ⟨rfl, hn⟩ | rfl
  · have : n = 0 := by
      unfold isV at hi
      rw [if_neg (by decide)] at hi
      split at hi
      · cases hi
      · simpa using hi
    subst this
    rfl
  · have h01 : 0 ≤ n ∧ n ≤ 1 := by omega
    have := cut_num (k := 1) (n := n) (m := n) (r := r) (Or.inl rfl) h01.1 (by show n.toNat < 256; omega) rfl (by
      show isV 1 n ByteArray.empty = true
      rw [isV_1, emp_list]
      rcases hn with rfl | rfl <;> decide)
    unfold keyL
    rw [if_pos rfl, List.cons_append]
    rw [if_neg (by decide)]
    rw [List.length_cons, highL_len]
    exact this
  · have hb := isNum_iff.1 hn
    have := cut_num (k := 2) (n := n) (m := n + 1000000000000000) (r := r) (Or.inr (Or.inl rfl)) (by omega) (by show (n + 1000000000000000).toNat < 256 ^ 8; omega) (by rw [if_pos rfl]; omega) (by
      show isV 2 n ByteArray.empty = true
      rw [isV_2, hn, emp_list]
      decide)
    unfold keyL
    rw [if_neg (by decide), if_pos rfl, List.cons_append]
    rw [if_neg (by decide)]
    rw [List.length_cons, highL_len]
    exact this
  · have hb : 0 ≤ n ∧ n ≤ 3652059 := by unfold isDayB at hn; simpa using hn
    have := cut_num (k := 3) (n := n) (m := n) (r := r) (Or.inr (Or.inr rfl)) hb.1 (by show n.toNat < 256 ^ 4; omega) rfl (by
      show isV 3 n ByteArray.empty = true
      rw [isV_3, hn, emp_list]
      decide)
    unfold keyL
    rw [if_neg (by decide), if_neg (by decide), if_pos rfl, List.cons_append]
    rw [if_neg (by decide)]
    rw [List.length_cons, highL_len]
    exact this
  · have : n = 0 := by
      unfold isV at hi
      rw [if_pos rfl] at hi
      simpa using hi
    subst this
    unfold keyL
    rw [if_neg (by decide), if_neg (by decide), if_neg (by decide), if_pos rfl, List.cons_append, List.append_assoc]
    show cutS (byo 4 :: (escL t ++ 0 :: 0 :: r)) = _
    rw [cutS_cons, if_neg (by decide), if_pos (by decide), cutT_esc t [] r 1 (by simpa using ht)]
    simp
    omega
end Go.Proofs.YtlfanhlkoepodaaDoor
