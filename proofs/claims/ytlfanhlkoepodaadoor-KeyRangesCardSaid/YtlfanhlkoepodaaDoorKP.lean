/-
  Keys of values: bytes of numbers, escaped texts, what they are turned to, and the values of them. No program in sight.
-/
import Derived.Test.YtlfanhlkoepodaaDoorKVp
namespace Go.Proofs.YtlfanhlkoepodaaDoor
set_option linter.unusedVariables false
set_option linter.unusedSimpArgs false
/-- The byte of a number. -/
def byo (n : Nat) : UInt8 := UInt8.ofNat n
theorem byo_val {n : Nat} (h : n < 256) : (byo n).toNat = n := by unfold byo; rw [UInt8.toNat_ofNat']; omega
theorem byo_toNat (b : UInt8) : byo b.toNat = b := by unfold byo; exact UInt8.ofNat_toNat
/-- A number with its highest byte first. -/
def highL (n : Nat) : Nat → List UInt8
  | 0 => []
  | k + 1 => highL (n / 256) k ++ [byo (n % 256)]
theorem highL_len (k : Nat) : ∀ n, (highL n k).length = k := by
  induction k with
  | zero => intro n; rfl
  | succ k ih => intro n; rw [highL, List.length_append, ih]; rfl
/-- The number of bytes, the highest first. -/
def beN (l : List UInt8) : Nat := l.foldl (fun n b => n * 256 + b.toNat) 0
theorem beN_snoc (l : List UInt8) (b : UInt8) : beN (l ++ [b]) = beN l * 256 + b.toNat := by unfold beN; rw [List.foldl_append]; rfl
theorem beN_high (k : Nat) : ∀ n, beN (highL n k) = n % 256 ^ k := by
  induction k with
  | zero => intro n; simp [highL, beN, Nat.mod_one]
  | succ k ih =>
    intro n
    rw [highL, beN_snoc, ih, byo_val (by omega), Nat.pow_succ, Nat.mul_comm (256 ^ k) 256, Nat.mod_mul]
    omega
/-- A byte of zero is followed by one. -/
def escL : List UInt8 → List UInt8
  | [] => []
  | b :: l => if b = 0 then 0 :: 1 :: escL l else b :: escL l
theorem esc_cons (b : UInt8) (l : List UInt8) : escL (b :: l) = if b = 0 then 0 :: 1 :: escL l else b :: escL l := rfl
theorem escL_app (a b : List UInt8) : escL (a ++ b) = escL a ++ escL b := by
  induction a with
  | nil => rfl
  | cons x l ih =>
    rw [List.cons_append, esc_cons, esc_cons, ih]
    split <;> rfl
theorem escL_len (l : List UInt8) : (escL l).length ≤ 2 * l.length := by
  induction l with
  | nil => simp [escL]
  | cons x l ih => unfold escL; split <;> simp <;> omega
/-- What bytes are turned to. -/
def turnL (l : List UInt8) : List UInt8 := l.map fun b => byo (255 - b.toNat)
def turnD (d : Bool) (l : List UInt8) : List UInt8 := if d then turnL l else l
theorem turnL_len (l : List UInt8) : (turnL l).length = l.length := by unfold turnL; rw [List.length_map]
theorem turnD_len (d : Bool) (l : List UInt8) : (turnD d l).length = l.length := by unfold turnD; split; exact turnL_len l; rfl
theorem turn_turn (l : List UInt8) : turnL (turnL l) = l := by
  unfold turnL
  rw [List.map_map]
  refine (List.map_congr_left (g := id) ?_).trans (List.map_id l)
  intro b _
  show byo (255 - (byo (255 - b.toNat)).toNat) = b
  have := b.toNat_lt
  rw [byo_val (by omega), show 255 - (255 - b.toNat) = b.toNat by omega, byo_toNat]
theorem turnD_turnD (d : Bool) (l : List UInt8) : turnD d (turnD d l) = l := by unfold turnD; split; exact turn_turn l; rfl
/-- The text of a key: the bytes behind the begin. -/
def cutT (acc : List UInt8) (pos : Nat) : List UInt8 → Option (List UInt8 × Nat)
  | [] => none
  | [_] => none
  | b :: d :: l => if b ≠ 0 then cutT (acc ++ [b]) (pos + 1) (d :: l) else if 1 < d.toNat then none else if d.toNat = 1 then cutT (acc ++ [0]) (pos + 2) l else if 48 < acc.length then none else some (acc, pos + 2)
theorem cutT_nil (acc : List UInt8) (pos : Nat) : cutT acc pos [] = none := by rw [cutT]
theorem cutT_one (acc : List UInt8) (pos : Nat) (b : UInt8) : cutT acc pos [b] = none := by rw [cutT]
theorem cutT_two (acc : List UInt8) (pos : Nat) (b d : UInt8) (l : List UInt8) : cutT acc pos (b :: d :: l) = if b ≠ 0 then cutT (acc ++ [b]) (pos + 1) (d :: l) else if 1 < d.toNat then none else if d.toNat = 1 then cutT (acc ++ [0]) (pos + 2) l else if 48 < acc.length then none else some (acc, pos + 2) := by rw [cutT]
theorem cutT_on (acc : List UInt8) (pos : Nat) (b : UInt8) (l : List UInt8) (h : b ≠ 0) : cutT acc pos (b :: l) = cutT (acc ++ [b]) (pos + 1) l := by
  cases l with
  | nil => rw [cutT_one, cutT_nil]
  | cons d l => rw [cutT_two, if_pos h]
/-- Once there is too much of it there is no text. -/
theorem cutT_long : ∀ (n : Nat) (l acc : List UInt8) (pos : Nat), l.length ≤ n → 48 < acc.length → cutT acc pos l = none
  | _, [], acc, pos, _, _ => cutT_nil _ _
  | _, [b], acc, pos, _, _ => cutT_one _ _ _
  | 0, b :: d :: l, acc, pos, h, _ => by simp at h
  | n + 1, b :: d :: l, acc, pos, h, ha => by
    rw [cutT_two]
    have ha' : ∀ x, 48 < (acc ++ [x] : List UInt8).length := by intro x; simp; omega
    split
    · exact cutT_long n _ _ _ (by simp at h ⊢; omega) (ha' _)
    · split
      · rfl
      · split
        · exact cutT_long n _ _ _ (by simp at h; omega) (ha' _)
        · rfl
/-- The text of an escaped text. -/
theorem cutT_esc (t : List UInt8) : ∀ (acc r : List UInt8) (pos : Nat), (acc ++ t).length ≤ 48 → cutT acc pos (escL t ++ 0 :: 0 :: r) = some (acc ++ t, pos + (escL t).length + 2) := by
  induction t with
  | nil =>
    intro acc r pos h
    show cutT acc pos (0 :: 0 :: r) = _
    rw [cutT_two, if_neg (by simp), if_neg (by decide), if_neg (by decide), if_neg (by simp at h; omega)]
    simp [escL]
  | cons b t ih =>
    intro acc r pos h
    unfold escL
    split
    · rename_i hb
      subst hb
      show cutT acc pos (0 :: 1 :: (escL t ++ 0 :: 0 :: r)) = _
      rw [cutT_two, if_neg (by simp), if_neg (by decide), if_pos (by decide), ih _ _ _ (by simp at h ⊢; omega)]
      simp
      omega
    · rename_i hb
      show cutT acc pos (b :: (escL t ++ 0 :: 0 :: r)) = _
      rw [cutT_on _ _ _ _ hb, ih _ _ _ (by simp at h ⊢; omega)]
      simp
      omega
end Go.Proofs.YtlfanhlkoepodaaDoor
