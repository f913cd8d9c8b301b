/-
  The order of keys is that of the values; the first bytes of a text.
-/
import Derived.Test.YtlfanhlkoepodaaDoorK18
import Derived.Test.YtlfanhlkoepodaaDoorKO
namespace Go.Proofs.YtlfanhlkoepodaaDoor
open Go.RowKit
set_option linter.unusedVariables false
set_option linter.unusedSimpArgs false
def fst48 (s : ByteArray) : ByteArray := if 48 < s.size then s.extract 0 48 else s
theorem fst_list (s : ByteArray) : (fst48 s).toList = s.toList.take 48 := by
  unfold fst48
  split
  · rw [ext0, strB_toList]
  · rw [List.take_of_length_le]
    rw [len_toList]
    omega
theorem fst_size (s : ByteArray) : (fst48 s).size ≤ 48 := by rw [← len_toList, fst_list, List.length_take]; omega
theorem fst_val {k n : Int} {s : ByteArray} (h : valE k n s = 0) : valE k n (fst48 s) = 0 := by
  by_cases h4 : 48 < s.size
  · have hk : k = 4 := by
      rcases val_kinds h with rfl | ⟨rfl, _⟩ | ⟨rfl, _⟩ | ⟨rfl, _⟩ | rfl
      · have := val_is h; rw [isV_0] at this; simp at this; rw [← len_toList, this.2] at h4; exact absurd h4 (by decide)
      · have := val_is h; rw [isV_1] at this; simp at this; rw [← len_toList, this.2] at h4; exact absurd h4 (by decide)
      · have := val_is h; rw [isV_2] at this; simp at this; rw [← len_toList, this.2] at h4; exact absurd h4 (by decide)
      · have := val_is h; rw [isV_3] at this; simp at this; rw [← len_toList, this.2] at h4; exact absurd h4 (by decide)
      · rfl
    subst hk
    have hi := val_is h
    rw [isV_4] at hi
    have hz := fst_size s
    unfold valE
    rw [if_neg (by omega), isV_4, hi]
    rfl
  · unfold fst48
    rw [if_neg h4]
    exact h
theorem wl_fst (s : ByteArray) (p c : Int) : Pg.wl (fst48 s).toList p c = wt s p c := by rw [fst_list]; rfl
theorem turn_cons (b : UInt8) (l : List UInt8) : turnL (b :: l) = byo (255 - b.toNat) :: turnL l := rfl
def kL (k n : Int) (s : ByteArray) (p c : Int) : List UInt8 := keyL k n (wt s p c)
theorem kL_cons (k n : Int) (s : ByteArray) (p c : Int) : ∃ r, kL k n s p c = byo k.toNat :: r := ⟨_, rfl⟩
theorem val_in {k n : Int} {s : ByteArray} (h : valE k n s = 0) : 0 ≤ k ∧ k ≤ 4 := by rcases val_kinds h with rfl | ⟨rfl, _⟩ | ⟨rfl, _⟩ | ⟨rfl, _⟩ | rfl <;> omega
/-- Nil comes first. -/
theorem ord_nil {k n k' n' : Int} {s s' : ByteArray} {p c : Int} (h : valE k n s = 0) (h' : valE k' n' s' = 0) (h0 : k = 0 ∨ k' = 0) :
    Lib.compareBytes (kL k n s p c) (kL k' n' s' p c) = cmpI (min k 1) (min k' 1) ∧ Lib.compareBytes (turnL (kL k n s p c)) (turnL (kL k' n' s' p c)) = - cmpI (min k 1) (min k' 1) := by
  have hk := val_in h
  have hk' := val_in h'
  by_cases e : k = k'
  · have hk0 : k = 0 := by omega
    have hk1 : k' = 0 := by omega
    subst hk0
    subst hk1
    exact ⟨rfl, rfl⟩
  · obtain ⟨r, hr⟩ := kL_cons k n s p c
    obtain ⟨q, hq⟩ := kL_cons k' n' s' p c
    have b1 : (byo k.toNat).toNat = k.toNat := byo_val (by omega)
    have b2 : (byo k'.toNat).toNat = k'.toNat := byo_val (by omega)
    rw [hr, hq, turn_cons, turn_cons, b1, b2]
    unfold cmpI
    by_cases hlt : k < k'
    · rw [cmp_lt (by omega), cmp_gt (by rw [byo_val (by omega), byo_val (by omega)]; omega), if_pos (by omega)]
      exact ⟨rfl, rfl⟩
    · rw [cmp_gt (by omega), cmp_lt (by rw [byo_val (by omega), byo_val (by omega)]; omega), if_neg (by omega), if_pos (by omega)]
      exact ⟨rfl, rfl⟩
theorem ord_same {b : UInt8} {x y : List UInt8} {z : Int} (h : Lib.compareBytes x y = z) (h2 : Lib.compareBytes (turnL x) (turnL y) = - z) : Lib.compareBytes (b :: x) (b :: y) = z ∧ Lib.compareBytes (turnL (b :: x)) (turnL (b :: y)) = - z := by
  rw [turn_cons, turn_cons, cmp_same, cmp_same]
  exact ⟨h, h2⟩
theorem ord_high {a b k : Nat} (ha : a < 256 ^ k) (hb : b < 256 ^ k) : Lib.compareBytes (highL a k) (highL b k) = cmpI a b ∧ Lib.compareBytes (turnL (highL a k)) (turnL (highL b k)) = - cmpI a b := by
  have h := cmp_high k a b ha hb
  exact ⟨h, by rw [cmp_turn _ _ (by rw [highL_len, highL_len]), h]⟩
theorem cmpI_shift {a b x y : Int} (h : x - y = a - b) : cmpI x y = cmpI a b := by
  unfold cmpI
  split <;> split <;> (try split) <;> (try split) <;> omega
/-- Of numbers it is that of the numbers. -/
theorem ord_num {k n n' : Int} {s s' : ByteArray} {p c : Int} (h : valE k n s = 0) (h' : valE k n' s' = 0) (h0 : k ≠ 0) (h4 : k ≠ 4) :
    Lib.compareBytes (kL k n s p c) (kL k n' s' p c) = cmpI n n' ∧ Lib.compareBytes (turnL (kL k n s p c)) (turnL (kL k n' s' p c)) = - cmpI n n' := by
  rcases val_kinds h with rfl | ⟨rfl, hn⟩ | ⟨rfl, hn⟩ | ⟨rfl, hn⟩ | rfl
  · exact absurd rfl h0
  · rcases val_kinds h' with e | ⟨_, hn'⟩ | ⟨e, _⟩ | ⟨e, _⟩ | e
    · omega
    · have q := ord_high (a := n.toNat) (b := n'.toNat) (k := 1) (by show n.toNat < 256; omega) (by show n'.toNat < 256; omega)
      rw [cmpI_shift (a := n) (b := n') (by omega)] at q
      exact ord_same q.1 q.2
    · omega
    · omega
    · omega
  · have hb := isNum_iff.1 hn
    rcases val_kinds h' with e | ⟨e, _⟩ | ⟨_, hn'⟩ | ⟨e, _⟩ | e
    · omega
    · omega
    · have hb' := isNum_iff.1 hn'
      have q := ord_high (a := (n + 1000000000000000).toNat) (b := (n' + 1000000000000000).toNat) (k := 8) (by show (n + 1000000000000000).toNat < 256 ^ 8; omega) (by show (n' + 1000000000000000).toNat < 256 ^ 8; omega)
      rw [cmpI_shift (a := n) (b := n') (by omega)] at q
      exact ord_same q.1 q.2
    · omega
    · omega
  · have hb : 0 ≤ n ∧ n ≤ 3652059 := by unfold isDayB at hn; simpa using hn
    rcases val_kinds h' with e | ⟨e, _⟩ | ⟨e, _⟩ | ⟨_, hn'⟩ | e
    · omega
    · omega
    · omega
    · have hb' : 0 ≤ n' ∧ n' ≤ 3652059 := by unfold isDayB at hn'; simpa using hn'
      have q := ord_high (a := n.toNat) (b := n'.toNat) (k := 4) (by show n.toNat < 256 ^ 4; omega) (by show n'.toNat < 256 ^ 4; omega)
      rw [cmpI_shift (a := n) (b := n') (by omega)] at q
      exact ord_same q.1 q.2
    · omega
  · exact absurd rfl h4
/-- Of texts it is that of their weights. -/
theorem ord_text (n n' : Int) (s s' : ByteArray) (p c : Int) :
    Lib.compareBytes (kL 4 n s p c) (kL 4 n' s' p c) = Pg.ordS (fst48 s) (fst48 s') p c ∧ Lib.compareBytes (turnL (kL 4 n s p c)) (turnL (kL 4 n' s' p c)) = - Pg.ordS (fst48 s) (fst48 s') p c := by
  have q := cmp_esc (wt s p c) (wt s' p c)
  unfold Pg.ordS
  rw [wl_fst, wl_fst]
  exact ord_same q.1 q.2
theorem keyB_list (k n : Int) (s : ByteArray) (p c : Int) : (keyB k n s p c).toList = kL k n s p c := by unfold keyB; rw [strB_toList]; rfl
theorem turnK_list (k n : Int) (s : ByteArray) (p c : Int) : (turnS true (keyB k n s p c)).toList = turnL (kL k n s p c) := by rw [turnS_t, strB_toList, keyB_list]
theorem ask_pc {p c : Int} {s t : ByteArray} (h : Co p c) (hs : s.size ≤ 48) (ht : t.size ≤ 48) : Pg.askC p c [s, t] = 0 := by
  have h1 : Pg.askE p [s, t] = 0 := by
    unfold Pg.askE
    rw [if_neg (by simp [Pg.longTo]; omega), if_neg]
    rcases h.1 with rfl | rfl | rfl <;> decide
  unfold Pg.askC
  rw [if_pos h1, if_neg]
  rcases h.2 with rfl | rfl <;> decide
set_option maxRecDepth 100000 in
set_option maxHeartbeats 4000000 in
theorem first_any (s : ByteArray) (w : World) : Calls Tryd.prog 20 #[.string s] w fun e w' => e = .returned (.string (fst48 s)) ∧ w = w' := by
  by_cases h : 48 < s.size
  · have d1 : decide ((48 : Int) < (s.size : Int)) = true := by simp; omega
    rw [show fst48 s = s.extract 0 48 by unfold fst48; rw [if_pos h]]
    go_enter Tryd.func20, Tryd.ntmps20
    go_wp2
    go_ret
    exact ⟨rfl, rfl⟩
  · have d1 : decide ((48 : Int) < (s.size : Int)) = false := by simp; omega
    rw [show fst48 s = s by unfold fst48; rw [if_neg h]]
    go_enter Tryd.func20, Tryd.ntmps20
    go_wp2
    go_ret
    exact ⟨rfl, rfl⟩
end Go.Proofs.YtlfanhlkoepodaaDoor
