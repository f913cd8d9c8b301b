import Derived.Test.YtffcaoicokookaaT26
namespace Go.Proofs.Ytffcaoicokookaa
open Go.RowKit
set_option linter.unusedVariables false
set_option linter.unusedSimpArgs false

theorem bth_cons (b : UInt8) (l : List UInt8) : bth (b :: l) 0 = (b.toNat : Int) := rfl
theorem bth_cons1 (b c : UInt8) (l : List UInt8) : bth (b :: c :: l) 1 = (c.toNat : Int) := rfl
theorem take_num (x : Int) (rest : List UInt8) (h0 : 0 ≤ x) (h1 : x ≤ 1000) : 0 < tkN (numS x ++ rest) ∧ tkV (numS x ++ rest) = x ∧ nx (numS x ++ rest) = rest := by
  by_cases h : x < 128
  · have e : numS x ++ rest = bOf x :: rest := by rw [numS, if_pos h]; rfl
    have eb : bth (bOf x :: rest) 0 = x := by rw [bth_cons, bOf_val x h0 (by omega)]
    have et : tkN (bOf x :: rest) = 1 := by unfold tkN; rw [eb, if_neg (by simp), if_pos h]
    rw [e]
    refine ⟨by rw [et]; decide, by unfold tkV; rw [eb, if_pos h], by unfold nx; rw [et]; rfl⟩
  · have e : numS x ++ rest = bOf (128 + x % 128) :: bOf (x / 128) :: rest := by rw [numS, if_neg h]; rfl
    have eb : bth (bOf (128 + x % 128) :: bOf (x / 128) :: rest) 0 = 128 + x % 128 := by rw [bth_cons, bOf_val _ (by omega) (by omega)]
    have ec : bth (bOf (128 + x % 128) :: bOf (x / 128) :: rest) 1 = x / 128 := by rw [bth_cons1, bOf_val _ (by omega) (by omega)]
    have et : tkN (bOf (128 + x % 128) :: bOf (x / 128) :: rest) = 2 := by unfold tkN; rw [eb, if_neg (by simp), if_neg (by omega), if_neg (by simp)]
    rw [e]
    refine ⟨by rw [et]; decide, by unfold tkV; rw [eb, ec, if_neg (by omega)]; omega, by unfold nx; rw [et]; rfl⟩
def sfx (ps : List (Int × Int)) : Nat → Nat → List UInt8
  | _, 0 => []
  | k, d + 1 => numS (fstN ps k - lastN ps k - 1) ++ (numS (sndN ps k - fstN ps k) ++ sfx ps (k + 1) d)
theorem pkTo_sfx (ps : List (Int × Int)) : ∀ d k, pkTo ps (k + d) = pkTo ps k ++ sfx ps k d
  | 0, k => by simp [sfx]
  | d + 1, k => by
    rw [show k + (d + 1) = k + 1 + d by omega, pkTo_sfx ps d (k + 1)]
    simp [pkTo, sfx, List.append_assoc]
theorem sfx_len (ps : List (Int × Int)) : ∀ d k, d ≤ (sfx ps k d).length
  | 0, k => Nat.zero_le _
  | d + 1, k => by
    have := sfx_len ps d (k + 1)
    have := numS_pos (fstN ps k - lastN ps k - 1)
    simp only [sfx, List.length_append]
    omega
def exTo (ps : List (Int × Int)) : Nat → List Int
  | 0 => []
  | k + 1 => runTo (exTo ps k) (fstN ps k) ((sndN ps k - fstN ps k).toNat + 1)
theorem upk_sfx (ps : List (Int × Int)) (hc : Chain ps) : ∀ d k f, k + d ≤ ps.length → d < f → upk f (sfx ps k d) (lastN ps k) (exTo ps k) = some (exTo ps (k + d))
  | 0, k, f, hk, hf => by
    obtain ⟨f, rfl⟩ : ∃ g, f = g + 1 := ⟨f - 1, by omega⟩
    simp [upk, sfx]
  | d + 1, k, f, hk, hf => by
    obtain ⟨f, rfl⟩ : ∃ g, f = g + 1 := ⟨f - 1, by omega⟩
    obtain ⟨c1, c2, c3, c4⟩ := hc k (by omega)
    obtain ⟨a1, a2, a3⟩ := take_num (fstN ps k - lastN ps k - 1) (numS (sndN ps k - fstN ps k) ++ sfx ps (k + 1) d) (by omega) (by omega)
    obtain ⟨b1, b2, b3⟩ := take_num (sndN ps k - fstN ps k) (sfx ps (k + 1) d) (by omega) (by omega)
    have hl : (sfx ps k (d + 1)).length ≠ 0 := by have := sfx_len ps (d + 1) k; omega
    have hs : sfx ps k (d + 1) = numS (fstN ps k - lastN ps k - 1) ++ (numS (sndN ps k - fstN ps k) ++ sfx ps (k + 1) d) := rfl
    rw [upk, if_neg hl, hs, if_neg (by omega), a3, if_neg (by omega), a2, b2, b3, if_neg (by omega)]
    have ih := upk_sfx ps hc d (k + 1) f (by omega) (by omega)
    rw [lastN_succ] at ih
    rw [show k + (d + 1) = k + 1 + d by omega, ← ih]
    have e1 : lastN ps k + (fstN ps k - lastN ps k - 1) + 1 = fstN ps k := by omega
    rw [e1, show fstN ps k + (sndN ps k - fstN ps k) = sndN ps k by omega]
    rfl
theorem exTo_lo (ps qs : List (Int × Int)) : ∀ k, k ≤ ps.length → exTo (ps ++ qs) k = exTo ps k
  | 0, _ => rfl
  | k + 1, h => by
    rw [exTo, exTo, exTo_lo ps qs k (by omega), fst_lo _ _ _ (by omega), snd_lo _ _ _ (by omega)]
theorem exTo_snoc (ps : List (Int × Int)) (a b : Int) : exTo (ps ++ [(a, b)]) (ps ++ [(a, b)]).length = runTo (exTo ps ps.length) a ((b - a).toNat + 1) := by
  rw [List.length_append, List.length_singleton, exTo, exTo_lo _ _ _ (Nat.le_refl _)]
  simp [fstN, sndN]
theorem exTo_rg (l : List Int) (hl : isSetS 300 l = true) : ∀ k, k ≤ l.length → exTo (rgTo l k) (rgTo l k).length = l.take k := by
  intro k
  induction k with
  | zero => intro _; simp [rgTo, exTo]
  | succ k ih =>
    intro hk
    have h := ih (by omega)
    have hc := chain_rg l hl k (by omega)
    have ht : l.take (k + 1) = l.take k ++ [nth l k] := by rw [List.take_succ_eq_append_getElem (by omega), nth_lt (by omega)]
    rw [rgTo_succ l k (by omega), ht, ← h]
    rcases List.eq_nil_or_concat (rgTo l k) with hq | ⟨qs, ⟨a, b⟩, hq⟩
    · rw [hq, stepR_nil]
      have := exTo_snoc [] (nth l k) (nth l k)
      simpa [runTo, exTo] using this
    · rw [List.concat_eq_append] at hq
      rw [hq] at hc ⊢
      obtain ⟨c1, c2, c3, c4, c5⟩ := chain_init _ _ _ hc
      by_cases e : b + 1 = nth l k
      · rw [stepR_on _ _ _ _ e, exTo_snoc, exTo_snoc]
        rw [show (nth l k - a).toNat = (b - a).toNat + 1 by omega, runTo_succ]
        rw [show a + (((b - a).toNat + 1 : Nat) : Int) = nth l k by omega]
      · rw [stepR_new _ _ _ _ e, exTo_snoc]
        simp [runTo]
theorem upk_pack {l : List Int} (hl : isSetS 300 l = true) : unpA (packS l) = l ∧ unpE (packS l) = 0 := by
  have hx : exTo (rangesS l) (rangesS l).length = l := by
    have := exTo_rg l hl l.length (Nat.le_refl _)
    rw [List.take_length] at this
    exact this
  have hs := pkTo_sfx (rangesS l) (rangesS l).length 0
  rw [Nat.zero_add] at hs
  have hp : packS l = sfx (rangesS l) 0 (rangesS l).length := by unfold packS; rw [hs]; simp [pkTo]
  have hu : upkS (packS l) = some l := by
    unfold upkS
    have := upk_sfx (rangesS l) (chain_ranges hl) (rangesS l).length 0 ((packS l).length + 1) (by omega) (by rw [hp]; have := sfx_len (rangesS l) (rangesS l).length 0; omega)
    rw [Nat.zero_add, hx, ← hp] at this
    exact this
  exact unp_yes hu rfl

/-! ### Maps -/
theorem below_set {N : Int} {l : List Int} : (isSetS 300 l && belowB l N) = (countB N && isSetS N l) := by
  rw [Bool.eq_iff_iff]
  simp only [Bool.and_eq_true]
  constructor
  · rintro ⟨h1, h2⟩
    have h2 : countB N = true ∧ (decide (l.length = 0) || decide (nth l (l.length - 1) ≤ N)) = true := by simpa only [belowB, Bool.and_eq_true] using h2
    refine ⟨h2.1, isSetS_of (isSetS_pair h1) fun y hy => ⟨(isSetS_mem h1 hy).1, ?_⟩⟩
    obtain ⟨i, hi, rfl⟩ := List.mem_iff_getElem.1 hy
    have hl : nth l (l.length - 1) ≤ N := by
      have := h2.2
      simp only [Bool.or_eq_true, decide_eq_true_eq] at this
      omega
    by_cases he : i = l.length - 1
    · subst he; rwa [nth_lt (by omega)] at hl
    · have := (List.pairwise_iff_getElem.1 (isSetS_pair h1)) i (l.length - 1) hi (by omega) (by omega)
      rw [nth_lt (by omega)] at hl
      omega
  · rintro ⟨h1, h2⟩
    have hN : 0 ≤ N ∧ N ≤ 300 := by simpa [countB] using h1
    refine ⟨isSetS_of (isSetS_pair h2) fun y hy => ?_, ?_⟩
    · have := isSetS_mem h2 hy; omega
    · unfold belowB
      rw [h1]
      by_cases h0 : l.length = 0
      · simp [h0]
      · have := isSetS_at h2 (k := l.length - 1) (by omega)
        simp
        omega
theorem un_map {l : List Int} {N : Int} {m : Nat} (hm : (N + 7) / 8 = (m : Int)) (h1 : countB N = true) (h2 : isSetS N l = true) : unA (mapL l m) N = l ∧ unE (mapL l m) N = 0 := by
  have hN : 0 ≤ N ∧ N ≤ 300 := by simpa [countB] using h1
  have hfit : fitB (mapL l m).length N = true := by unfold fitB; rw [mapL_len, hm]; simp
  have hgood : goodTo (mapL l m) N (8 * (mapL l m).length) = true := by
    unfold goodTo
    rw [List.all_eq_true]
    intro j hj
    rw [mapL_len, List.mem_range] at hj
    rw [bitv_map l m j hj]
    by_cases hx : ((j : Int) + 1) ∈ l
    · have := isSetS_mem h2 hx
      simp [hx]; omega
    · simp [hx]
  have hum : umTo (mapL l m) (8 * (mapL l m).length) = l := by
    rw [mapL_len, umTo_map l m (isSetS_pair h2) (8 * m) (Nat.le_refl _) (fun y hy => (isSetS_mem h2 hy).1)]
    rw [List.filter_eq_self]
    intro y hy
    have := isSetS_mem h2 hy
    simp; omega
  unfold unA unE
  rw [h1, hfit, hgood, hum]
  simp
end Go.Proofs.Ytffcaoicokookaa
