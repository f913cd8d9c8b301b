/-
  What is above a text, and the shortest text between two. No program in sight.
-/
import Derived.Test.YtlfanhlkoepodaaDoorKP
import Derived.Lib.Bytealg
namespace Go.Proofs.YtlfanhlkoepodaaDoor
set_option linter.unusedVariables false
set_option linter.unusedSimpArgs false
theorem u8_lt {a b : UInt8} : a < b ↔ a.toNat < b.toNat := UInt8.lt_iff_toNat_lt
theorem less_cmp : ∀ a b : List UInt8, Op.bytesLess a b = decide (Lib.compareBytes a b < 0)
  | [], [] => rfl
  | _ :: _, [] => rfl
  | [], _ :: _ => rfl
  | a :: x, b :: y => by
    unfold Op.bytesLess Lib.compareBytes
    rw [less_cmp x y]
    by_cases h : a < b
    · simp [h]
    · by_cases h2 : b < a
      · have hne : ¬ a = b := by intro e; subst e; exact absurd h2 h
        simp [h, h2, hne]
      · have he : a = b := UInt8.toNat_inj.1 (by rw [u8_lt] at h h2; omega)
        subst he
        simp [h]
theorem cmp_refl : ∀ a : List UInt8, Lib.compareBytes a a = 0
  | [] => rfl
  | a :: x => by unfold Lib.compareBytes; rw [if_neg (by rw [u8_lt]; omega), if_neg (by rw [u8_lt]; omega), cmp_refl x]
theorem cmp_same (a : UInt8) (x y : List UInt8) : Lib.compareBytes (a :: x) (a :: y) = Lib.compareBytes x y := by
  rw [Lib.compareBytes, if_neg (by rw [u8_lt]; omega), if_neg (by rw [u8_lt]; omega)]
theorem cmp_app : ∀ (p x y : List UInt8), Lib.compareBytes (p ++ x) (p ++ y) = Lib.compareBytes x y
  | [], _, _ => rfl
  | a :: p, x, y => by rw [List.cons_append, List.cons_append, cmp_same, cmp_app p]
theorem cmp_lt {a b : UInt8} (h : a.toNat < b.toNat) (x y : List UInt8) : Lib.compareBytes (a :: x) (b :: y) = -1 := by unfold Lib.compareBytes; rw [if_pos (u8_lt.2 h)]
theorem cmp_gt {a b : UInt8} (h : b.toNat < a.toNat) (x y : List UInt8) : Lib.compareBytes (a :: x) (b :: y) = 1 := by unfold Lib.compareBytes; rw [if_neg (by rw [u8_lt]; omega), if_pos (u8_lt.2 h)]
theorem cmp_nil (x : List UInt8) : Lib.compareBytes [] x ≤ 0 := by cases x <;> simp [Lib.compareBytes]
/-- The least text above all that begin with a text. -/
def behR : List UInt8 → Option (List UInt8)
  | [] => none
  | b :: r => if b.toNat = 255 then behR r else some ((byo (b.toNat + 1) :: r).reverse)
def behL (l : List UInt8) : Option (List UInt8) := behR l.reverse
theorem beh_skip {p : List UInt8} {b : UInt8} (h : b.toNat = 255) : behL (p ++ [b]) = behL p := by
  unfold behL
  rw [List.reverse_append]
  show behR (b :: p.reverse) = _
  rw [behR, if_pos h]
theorem beh_hit {p : List UInt8} {b : UInt8} (h : b.toNat ≠ 255) : behL (p ++ [b]) = some (p ++ [byo (b.toNat + 1)]) := by
  unfold behL
  rw [List.reverse_append]
  show behR (b :: p.reverse) = _
  rw [behR, if_neg h]
  simp
theorem beh_nil : behL [] = none := rfl
/-- The least text of the same length above a text. -/
def furF : List UInt8 → Option (List UInt8)
  | [] => none
  | b :: l => match furF l with
    | some x => some (b :: x)
    | none => if b.toNat < 255 then some (byo (b.toNat + 1) :: List.replicate l.length 0) else none
theorem fur_hit {b : UInt8} {q : List UInt8} (hb : b.toNat < 255) (hq : furF q = none) : ∀ p : List UInt8, furF (p ++ b :: q) = some (p ++ byo (b.toNat + 1) :: List.replicate q.length 0)
  | [] => by show furF (b :: q) = _; rw [furF, hq]; simp [hb]
  | a :: p => by
    show furF (a :: (p ++ b :: q)) = _
    rw [furF, fur_hit hb hq p]
    rfl
theorem fur_full {b : UInt8} {q : List UInt8} (hb : b.toNat = 255) (hq : furF q = none) : furF (b :: q) = none := by rw [furF, hq]; simp [hb]
/-- It is above all that begin with the text. -/
theorem fur_above : ∀ (l x r : List UInt8), furF l = some x → Lib.compareBytes x (l ++ r) = 1
  | [], x, r, h => by cases h
  | b :: l, x, r, h => by
    rw [furF] at h
    cases hf : furF l with
    | some y =>
      rw [hf] at h
      obtain rfl := Option.some.inj h
      rw [List.cons_append, cmp_same]
      exact fur_above l y r hf
    | none =>
      rw [hf] at h
      by_cases hb : b.toNat < 255
      · rw [if_pos hb] at h
        obtain rfl := Option.some.inj h
        rw [List.cons_append]
        exact cmp_gt (by rw [byo_val (by omega)]; omega) _ _
      · rw [if_neg hb] at h
        cases h
/-- How many bytes two texts begin with together. -/
def cmnL : List UInt8 → List UInt8 → Nat
  | a :: x, b :: y => if a = b then cmnL x y + 1 else 0
  | _, _ => 0
theorem cmn_nil1 (l : List UInt8) : cmnL [] l = 0 := rfl
theorem cmn_nil2 (l : List UInt8) : cmnL l [] = 0 := by cases l <;> rfl
theorem cmn_cons (a b : UInt8) (x y : List UInt8) : cmnL (a :: x) (b :: y) = if a = b then cmnL x y + 1 else 0 := rfl
theorem cmn_le : ∀ a b : List UInt8, cmnL a b ≤ a.length ∧ cmnL a b ≤ b.length
  | [], _ => by simp [cmn_nil1]
  | _ :: _, [] => by simp [cmn_nil2]
  | a :: x, b :: y => by
    rw [cmn_cons]
    have := cmn_le x y
    split <;> simp <;> omega
theorem cmn_take : ∀ a b : List UInt8, a.take (cmnL a b) = b.take (cmnL a b)
  | [], b => by simp [cmn_nil1]
  | a :: x, [] => by simp [cmn_nil2]
  | a :: x, b :: y => by
    rw [cmn_cons]
    split
    · rename_i h
      subst h
      rw [List.take_succ_cons, List.take_succ_cons, cmn_take x y]
    · rfl
/-- The loop that counts them: k of them are equal. -/
theorem cmn_more {a b : List UInt8} {k : Nat} (h1 : k < a.length) (h2 : k < b.length) (h : cmnL a b = k + cmnL (a.drop k) (b.drop k)) (he : a[k] = b[k]) : cmnL a b = (k + 1) + cmnL (a.drop (k + 1)) (b.drop (k + 1)) := by
  rw [List.drop_eq_getElem_cons h1, List.drop_eq_getElem_cons h2, cmn_cons, if_pos he] at h
  omega
theorem cmn_stop {a b : List UInt8} {k : Nat} (h : cmnL a b = k + cmnL (a.drop k) (b.drop k)) (hk : k = a.length ∨ k = b.length) : cmnL a b = k := by
  rcases hk with rfl | rfl
  · rw [List.drop_length, cmn_nil1] at h; omega
  · rw [List.drop_length, cmn_nil2] at h; omega
theorem cmn_ne {a b : List UInt8} {k : Nat} (h1 : k < a.length) (h2 : k < b.length) (h : cmnL a b = k + cmnL (a.drop k) (b.drop k)) (he : a[k] ≠ b[k]) : cmnL a b = k := by
  rw [List.drop_eq_getElem_cons h1, List.drop_eq_getElem_cons h2, cmn_cons, if_neg he] at h
  omega
/-- The shortest text between two. -/
def shoL (a b : List UInt8) : List UInt8 := if cmnL a b = a.length then a ++ [0] else b.take (cmnL a b) ++ [byo ((a.getD (cmnL a b) 0).toNat + 1)]
/-- Where a text is below another one they differ first at a byte that is below, or it ends there. -/
theorem lt_at : ∀ a b : List UInt8, Lib.compareBytes a b < 0 → cmnL a b < b.length ∧ (cmnL a b < a.length → (a.getD (cmnL a b) 0).toNat < (b.getD (cmnL a b) 0).toNat)
  | [], [], h => by simp [Lib.compareBytes] at h
  | [], b :: y, h => by simp [cmn_nil1]
  | a :: x, [], h => by simp [Lib.compareBytes] at h
  | a :: x, b :: y, h => by
    rw [cmn_cons]
    by_cases e : a = b
    · subst e
      rw [cmp_same] at h
      have := lt_at x y h
      rw [if_pos rfl]
      simpa using this
    · rw [if_neg e]
      unfold Lib.compareBytes at h
      by_cases hl : a < b
      · rw [u8_lt] at hl
        simpa using hl
      · rw [if_neg hl] at h
        by_cases hg : b < a
        · rw [if_pos hg] at h; omega
        · exact absurd (UInt8.toNat_inj.1 (by rw [u8_lt] at hl hg; omega)) e
/-- The reference: of a shorter beginning the next text is above b. -/
theorem sho_less {a b : List UInt8} (k : Nat) (hk : k ≤ cmnL a b) {x : List UInt8} (hx : furF (a.take k) = some x) : 0 < Lib.compareBytes x b := by
  have e : a.take k = b.take k := by
    have := congrArg (List.take k) (cmn_take a b)
    rwa [List.take_take, List.take_take, Nat.min_eq_left hk] at this
  rw [e] at hx
  have := fur_above _ _ (b.drop k) hx
  rw [List.take_append_drop] at this
  omega
theorem sho_hit {a b : List UInt8} (h : Lib.compareBytes a b < 0) (hk : cmnL a b < a.length) : furF (a.take (cmnL a b + 1)) = some (shoL a b) ∧ Lib.compareBytes (shoL a b) b ≤ 0 := by
  obtain ⟨h1, h2⟩ := lt_at a b h
  have h2 := h2 hk
  have hb := (b.getD (cmnL a b) 0).toNat_lt
  have ea : a.getD (cmnL a b) 0 = a[cmnL a b] := by simp [List.getD, hk]
  have eb : b.getD (cmnL a b) 0 = b[cmnL a b] := by simp [List.getD, h1]
  have hs : shoL a b = a.take (cmnL a b) ++ [byo ((a.getD (cmnL a b) 0).toNat + 1)] := by
    unfold shoL
    rw [if_neg (by omega), cmn_take]
  constructor
  · rw [hs, List.take_succ_eq_append_getElem hk, ← ea]
    exact fur_hit (by omega) rfl _
  · have hbb : ∀ x, Lib.compareBytes (b.take (cmnL a b) ++ x) b = Lib.compareBytes x (b.drop (cmnL a b)) := by
      intro x
      have := cmp_app (b.take (cmnL a b)) x (b.drop (cmnL a b))
      rwa [List.take_append_drop] at this
    rw [hs, cmn_take, hbb, List.drop_eq_getElem_cons h1, ← eb]
    by_cases hd : (a.getD (cmnL a b) 0).toNat + 1 = (b.getD (cmnL a b) 0).toNat
    · rw [hd, byo_toNat, cmp_same]
      exact cmp_nil _
    · have := cmp_lt (a := byo ((a.getD (cmnL a b) 0).toNat + 1)) (b := b.getD (cmnL a b) 0) (by rw [byo_val (by omega)]; omega) [] (b.drop (cmnL a b + 1))
      omega
end Go.Proofs.YtlfanhlkoepodaaDoor
