/-
  Stamps read back: plain facts.
-/
import Derived.Test.YtkjcfnmbnddhjaaDoorVf1
import Derived.Lib.SlTrimSet
namespace Go.Proofs.YtkjcfnmbnddhjaaDoor
open Go.RowKit
set_option linter.unusedVariables false
set_option linter.unusedSimpArgs false
def digsL : List UInt8 := [48, 49, 50, 51, 52, 53, 54, 55, 56, 57]
theorem digs_has (b : UInt8) : digsL.contains b = isDg b := by
  have h : ∀ n, n < 256 → digsL.contains (UInt8.ofNat n) = isDg (UInt8.ofNat n) := by decide +kernel
  have := h b.toNat b.toNat_lt
  rwa [show UInt8.ofNat b.toNat = b from UInt8.ofNat_toNat] at this
theorem drop_nil (p : UInt8 → Bool) : ∀ l : List UInt8, l.dropWhile p = [] ↔ ∀ b ∈ l, p b = true
  | [] => by simp
  | b :: l => by
    by_cases hb : p b = true
    · rw [List.dropWhile_cons_of_pos hb, drop_nil p l]
      simp [hb]
    · rw [List.dropWhile_cons_of_neg (by simpa using hb)]
      simp [hb]
theorem drop_stop (p : UInt8 → Bool) : ∀ l : List UInt8, l.dropWhile p ≠ [] → ∃ b, b ∈ l.dropWhile p ∧ p b = false
  | [], h => absurd rfl h
  | b :: l, h => by
    by_cases hb : p b = true
    · rw [List.dropWhile_cons_of_pos hb] at h ⊢
      exact drop_stop p l h
    · rw [List.dropWhile_cons_of_neg (by simpa using hb)]
      exact ⟨b, by simp, by simpa using hb⟩
theorem trimS_nil (l : List UInt8) : Lib.trimS l digsL = [] ↔ l.all isDg = true := by
  have hp : (fun b => digsL.contains b) = isDg := funext digs_has
  unfold Lib.trimS Lib.trimLeftS Lib.trimRightS
  rw [hp]
  constructor
  · intro h
    have h1 : ∀ b ∈ (l.reverse.dropWhile isDg).reverse, isDg b = true := (drop_nil _ _).1 h
    have h2 : l.reverse.dropWhile isDg = [] := by
      by_cases e : l.reverse.dropWhile isDg = []
      · exact e
      · obtain ⟨b, hb, hf⟩ := drop_stop isDg _ e
        have := h1 b (by simpa using hb)
        rw [hf] at this
        cases this
    have h3 := (drop_nil _ _).1 h2
    rw [List.all_eq_true]
    exact fun b hb => h3 b (by simpa using hb)
  · intro h
    rw [List.all_eq_true] at h
    have h2 : l.reverse.dropWhile isDg = [] := (drop_nil _ _).2 fun b hb => h b (by simpa using hb)
    rw [h2]
    rfl
/-- What a stamp is: the day, and whether it is one. -/
def unA (s : ByteArray) : Int := valI (s.extract 0 4)
def unM (s : ByteArray) : Int := valI (s.extract 4 6)
def unD (s : ByteArray) : Int := valI (s.extract 6 s.size)
def unO (s : ByteArray) : Int := if s.toList = bl8.toList then 0 else if s.size = 8 ∧ s.toList.all isDg = true then dayO (unA s) (unM s) (unD s) else 0
def unB (s : ByteArray) : Bool := if s.toList = bl8.toList then true else if s.size = 8 ∧ s.toList.all isDg = true then dayE (unA s) (unM s) (unD s) == 0 else false
theorem num_zeros (k : Nat) : numL (List.replicate k 48) 0 = 0 := by
  induction k with
  | zero => rfl
  | succ k ih =>
    rw [List.replicate_succ, numL_cons, if_pos (by decide), show accD 0 48 = 0 by decide]
    exact ih
theorem pad_list (n : Int) (k : Nat) (h : 0 ≤ n) : (padB n k).toList = List.replicate (k - (decB n).size) 48 ++ decL n.toNat := by
  unfold padB
  rw [add_list]
  unfold repB
  rw [strB_toList]
  congr 1
  unfold decB
  rw [if_neg (by omega), strB_toList]
theorem pad_digs (n : Int) (k : Nat) (h : 0 ≤ n) : ∀ b ∈ (padB n k).toList, isDg b = true := by
  intro b hb
  rw [pad_list n k h] at hb
  rcases List.mem_append.1 hb with q | q
  · rw [List.eq_of_mem_replicate q]; decide
  · exact decL_dig _ b q
theorem pad_ne (n : Int) (k : Nat) (h : 0 ≤ n) : ∃ b l, (padB n k).toList = b :: l ∧ isDg b = true := by
  have hd := pad_digs n k h
  have hl : (padB n k).toList ≠ [] := by
    rw [pad_list n k h]
    obtain ⟨b, l, e, _⟩ := decL_cons n.toNat
    rw [e]
    simp
  obtain ⟨b, l, e⟩ := List.exists_cons_of_ne_nil hl
  exact ⟨b, l, e, hd b (by rw [e]; simp)⟩
theorem val_pad (n : Int) (k : Nat) (h : 0 ≤ n) (h1 : n ≤ 1000000000000000) : valI (padB n k) = n := by
  obtain ⟨b, l, e, hb⟩ := pad_ne n k h
  have hn := dg_ne hb
  have hs : valI (padB n k) = numL (padB n k).toList 0 := by
    unfold valI
    rw [e]
    have ht : trL (b :: l) 32 = b :: l := by unfold trL; rw [List.dropWhile_cons_of_neg (by simp; omega)]
    rw [ht, sgnL_cons, if_neg hn.2.1, if_neg hn.2.2.1]
  rw [hs, pad_list n k h, numL_digs _ _ _ (fun b hb => by rw [List.eq_of_mem_replicate hb]; decide), num_zeros, num_dec _ (by omega)]
  omega
theorem stamp_back {n : Int} (h : isDayB n = true) : unO (stS n) = n ∧ unB (stS n) = true := by
  by_cases h0 : n = 0
  · subst h0
    rw [stS_0]
    unfold unO unB
    rw [if_pos rfl, if_pos rfl]
    exact ⟨rfl, rfl⟩
  · rw [stS_yes h h0]
    obtain ⟨hk, he, hz⟩ := sp_ok h h0
    obtain ⟨hy, hm, hd⟩ := sp_sizes h
    obtain ⟨a, b, c⟩ := pads hy hm hd
    have s1 : (padB (spY n) 4).toList.length = 4 := by rw [len_toList, padB_size a]
    have s2 : (padB (spM n) 2).toList.length = 2 := by rw [len_toList, padB_size b]
    have s3 : (padB (spD n) 2).toList.length = 2 := by rw [len_toList, padB_size c]
    have hsz := stB_size h
    have hl : (stB n).toList = (padB (spY n) 4).toList ++ ((padB (spM n) 2).toList ++ (padB (spD n) 2).toList) := by unfold stB; rw [add_list, add_list, List.append_assoc]
    have hdg : (stB n).toList.all isDg = true := by
      rw [hl, List.all_eq_true]
      intro x hx
      rcases List.mem_append.1 hx with q | q
      · exact pad_digs _ _ hy.1 x q
      · rcases List.mem_append.1 q with q | q
        · exact pad_digs _ _ hm.1 x q
        · exact pad_digs _ _ hd.1 x q
    have hne : (stB n).toList ≠ bl8.toList := by
      intro e
      rw [e] at hdg
      exact absurd hdg (by rw [ByteArray.toList_eq]; decide)
    have e1 : unA (stB n) = spY n := by
      unfold unA
      rw [show (stB n).extract 0 4 = padB (spY n) 4 by
        apply str_ext
        rw [ext_list, hl, List.drop_zero, Nat.sub_zero, List.take_left' s1]]
      exact val_pad _ _ hy.1 (by omega)
    have e2 : unM (stB n) = spM n := by
      unfold unM
      rw [show (stB n).extract 4 6 = padB (spM n) 2 by
        apply str_ext
        rw [ext_list, hl, List.drop_left' s1, List.take_left' (by rw [s2])]]
      exact val_pad _ _ hm.1 (by omega)
    have e3 : unD (stB n) = spD n := by
      unfold unD
      rw [hsz, show (stB n).extract 6 8 = padB (spD n) 2 by
        apply str_ext
        rw [ext_list, hl, ← List.append_assoc, List.drop_left' (by rw [List.length_append, s1, s2]), List.take_of_length_le (by rw [s3]; omega)]]
      exact val_pad _ _ hd.1 (by omega)
    obtain ⟨o1, o2⟩ := day_ok hk
    unfold unO unB
    rw [if_neg hne, if_neg hne, if_pos ⟨hsz, hdg⟩, if_pos ⟨hsz, hdg⟩, e1, e2, e3, o1, o2, he]
    exact ⟨rfl, rfl⟩
end Go.Proofs.YtkjcfnmbnddhjaaDoor
