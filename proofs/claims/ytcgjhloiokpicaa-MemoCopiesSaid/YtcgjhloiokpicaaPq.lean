/-
  Pack, plainly: which texts are kept, and where they are then. No program in sight.
-/
import Derived.Test.YtcgjhloiokpicaaMr
namespace Go.Proofs.Ytcgjhloiokpicaa
open Go.RowKit
set_option linter.unusedVariables false
set_option linter.unusedSimpArgs false
/-- Each number is greater than the one before. -/
def AscP (u : List Int) : Prop := ∀ i, i + 1 < u.length → nth u i < nth u (i + 1)
/-- A text stands at each block. -/
def AllF (l : List En) (u : List Int) : Prop := ∀ i, i < u.length → findN l (nth u i) < l.length
def pkE (l acc : List En) (b : Int) : En := ⟨endI acc, (eth l (findN l b)).blocks, 1, (eth l (findN l b)).s⟩
/-- The texts at the first k blocks, in an empty file. -/
def pkK (l : List En) (u : List Int) : Nat → List En
  | 0 => []
  | k + 1 => pkK l u k ++ [pkE l (pkK l u k) (nth u k)]
def pkP (l : List En) (u : List Int) : Nat → List (Int × Int)
  | 0 => []
  | k + 1 => pkP l u k ++ [(nth u k, endI (pkK l u k))]
/-- What Pack answers, and what is there then. -/
def PackR (l : List En) (u : List Int) (k : Int) (ps : List (Int × Int)) (l' : List En) : Prop :=
  (k = 1 ∧ ¬ AscP u ∧ ps = [] ∧ l' = l) ∨ (k = 4 ∧ AscP u ∧ ¬ AllF l u ∧ ps = [] ∧ l' = l) ∨ (k = 0 ∧ AscP u ∧ AllF l u ∧ ps = pkP l u u.length ∧ l' = pkK l u u.length)
theorem PackR.one {l : List En} {u : List Int} {k k' : Int} {ps ps' : List (Int × Int)} {l' l'' : List En} (h : PackR l u k ps l') (h' : PackR l u k' ps' l'') : k' = k ∧ ps' = ps ∧ l'' = l' := by
  rcases h with ⟨h1, h2, h3, h4⟩ | ⟨h1, h2, h3, h4, h5⟩ | ⟨h1, h2, h3, h4, h5⟩ <;> rcases h' with ⟨g1, g2, g3, g4⟩ | ⟨g1, g2, g3, g4, g5⟩ | ⟨g1, g2, g3, g4, g5⟩ <;>
    first
    | exact absurd ‹AscP u› ‹¬ AscP u›
    | exact absurd ‹AllF l u› ‹¬ AllF l u›
    | (subst_vars; exact ⟨rfl, rfl, rfl⟩)
theorem pkK_len (l : List En) (u : List Int) : ∀ k, (pkK l u k).length = k
  | 0 => rfl
  | k + 1 => by rw [pkK, List.length_append, pkK_len l u k]; rfl
theorem pkP_len (l : List En) (u : List Int) : ∀ k, (pkP l u k).length = k
  | 0 => rfl
  | k + 1 => by rw [pkP, List.length_append, pkP_len l u k]; rfl
theorem pkK_take (l : List En) (u : List Int) : ∀ n k, k ≤ n → (pkK l u n).take k = pkK l u k
  | 0, k, h => by obtain rfl : k = 0 := by omega
                  rfl
  | n + 1, k, h => by
    by_cases hk : k = n + 1
    · subst hk
      rw [List.take_of_length_le (by rw [pkK_len]; omega)]
    · rw [pkK, List.take_append_of_le_length (by rw [pkK_len]; omega)]
      exact pkK_take l u n k (by omega)
theorem find_is {l : List En} {b : Int} (h : findN l b < l.length) : (eth l (findN l b)).block = b ∧ (eth l (findN l b)).kind = 1 := by
  have h2 : hitE b (l[findN l b]) = true := List.findIdx_getElem (w := h)
  rw [← eth_get h] at h2
  unfold hitE at h2
  simpa using h2
section
variable {size : Int} {l : List En} {u : List Int}
theorem beg_mono (hG : Good size l) (a : Nat) : ∀ d, a + 1 + d ≤ l.length → begN l (a + 1) ≤ begN l (a + 1 + d)
  | 0, _ => Int.le_refl _
  | d + 1, h => by
    have h1 := beg_mono hG a d (by omega)
    have h2 := begN_succ (l := l) (k := a + 1 + d) (by omega)
    have h3 := ((good_facts hG).2.1 (a + 1 + d) (by omega)).2.1
    rw [show a + 1 + (d + 1) = a + 1 + d + 1 from rfl, h2]
    omega
theorem good_after (hG : Good size l) {a b : Nat} (hab : a < b) (hb : b < l.length) : (eth l a).block + (eth l a).blocks ≤ (eth l b).block := by
  obtain ⟨h1, _, _⟩ := beg_good hG
  have h2 := begN_succ (l := l) (k := a) (by omega)
  have h3 := beg_mono hG a (b - (a + 1)) (by omega)
  rw [show a + 1 + (b - (a + 1)) = b by omega, h2, h1 a (by omega), h1 b hb] at h3
  exact h3
theorem good_before (hG : Good size l) {a b : Nat} (ha : a < l.length) (hb : b < l.length) (h : (eth l a).block < (eth l b).block) : (eth l a).block + (eth l a).blocks ≤ (eth l b).block := by
  rcases Nat.lt_trichotomy a b with h1 | h1 | h1
  · exact good_after hG h1 hb
  · subst h1; omega
  · have := good_after hG h1 ha
    have := ((good_facts hG).2.1 b hb).2.1
    omega
theorem pk_inv (hG : Good size l) (hA : AscP u) (hF : AllF l u) : ∀ k, k ≤ u.length → ∃ e, Run size 1 false (pkK l u k) e false ∧ (k = 0 → e = 1) ∧ (∀ j, k = j + 1 → e ≤ (eth l (findN l (nth u j))).block + (eth l (findN l (nth u j))).blocks) ∧ ∀ j, j < k → (eth (pkK l u k) j).kind = 1
  | 0, _ => ⟨1, ⟨rfl, rfl⟩, fun _ => rfl, fun j h => by omega, fun j h => by omega⟩
  | k + 1, hk => by
    obtain ⟨e, hr, h0, hj, hkd⟩ := pk_inv hG hA hF k (by omega)
    have hi := hF k (by omega)
    obtain ⟨hb, hk1⟩ := find_is hi
    have hx := (good_facts hG).2.1 _ hi
    have hle : e ≤ (eth l (findN l (nth u k))).block := by
      cases k with
      | zero => rw [h0 rfl]; exact hx.1
      | succ j =>
        have h1 := hj j rfl
        have hi2 := hF j (by omega)
        have h2 := good_before hG hi2 hi (by rw [hb, (find_is hi2).1]; exact hA j (by omega))
        omega
    have hend : endI (pkK l u k) = e := end_run hr (by omega)
    obtain ⟨_, _, _, hok, _, _, _⟩ := good_at hG hi
    have hok2 : okE size (pkE l (pkK l u k) (nth u k)) := by
      refine ⟨hok.1, .inr ⟨rfl, ?_⟩⟩
      rcases hok.2 with h | h
      · rw [hk1] at h; exact absurd h.1 (by decide)
      · exact h.2
    refine ⟨e + (eth l (findN l (nth u k))).blocks, ?_, fun h => by omega, fun j h => ?_, fun j h => ?_⟩
    · rw [pkK]
      refine run_append.2 ⟨e, false, hr, ?_⟩
      exact ⟨hend, hok2, fun h => (by cases h), rfl, rfl⟩
    · obtain rfl : k = j := by omega
      omega
    · by_cases hjk : j = k
      · subst hjk
        rw [pkK]
        have := eth_mid (pkK l u j) [] (pkE l (pkK l u j) (nth u j))
        rw [pkK_len] at this
        rw [this]
        rfl
      · rw [pkK, ← hkd j (by omega)]
        unfold eth
        rw [List.getD_eq_getElem?_getD, List.getD_eq_getElem?_getD, List.getElem?_append_left (by rw [pkK_len]; omega)]
/-- The texts that are kept make a file. -/
theorem pk_good (hG : Good size l) (hA : AscP u) (hF : AllF l u) {k : Nat} (hk : k ≤ u.length) : Good size (pkK l u k) := by
  obtain ⟨e, hr, h0, hj, _⟩ := pk_inv hG hA hF k hk
  refine ⟨e, hr, ?_⟩
  cases k with
  | zero => rw [h0 rfl]; decide
  | succ j =>
    have := hj j rfl
    have := (good_facts hG).2.1 _ (hF j (by omega))
    omega
/-- A put of the next text. -/
theorem pk_put (hG : Good size l) (hA : AscP u) (hF : AllF l u) {k : Nat} (hk : k < u.length) : (eth l (findN l (nth u k))).s.size ≤ 2048 ∧ putL (pkK l u k) (needS size (eth l (findN l (nth u k))).s.size) (eth l (findN l (nth u k))).s = pkK l u (k + 1) ∧
    putB (pkK l u k) (needS size (eth l (findN l (nth u k))).s.size) = endI (pkK l u k) := by
  obtain ⟨e, hr, h0, hj, hkd⟩ := pk_inv hG hA hF k (by omega)
  obtain ⟨e', hr', _, hj', _⟩ := pk_inv hG hA hF (k + 1) (by omega)
  have hi := hF k hk
  obtain ⟨hb, hk1⟩ := find_is hi
  have hx := (good_facts hG).2.1 _ hi
  obtain ⟨_, _, _, hok, _, _, _⟩ := good_at hG hi
  have hok2 := hok.2
  rw [hk1] at hok2
  rcases hok2 with h | ⟨_, h1, h2⟩
  · exact absurd h.1 (by decide)
  have hz : ¬ putN (pkK l u k) (needS size (eth l (findN l (nth u k))).s.size) < (pkK l u k).length := putN_none (fun j hj => by
    rw [pkK_len] at hj
    unfold fitE
    rw [hkd j hj]
    rfl)
  have hG2 := pk_good hG hA hF (k := k + 1) (by omega)
  have hen : endI (pkK l u k) + needS size (eth l (findN l (nth u k))).s.size ≤ 4096 := by
    have hf := (good_facts hG2).2.1 k (by rw [pkK_len]; omega)
    have he : eth (pkK l u (k + 1)) k = pkE l (pkK l u k) (nth u k) := by
      have := eth_mid (pkK l u k) [] (pkE l (pkK l u k) (nth u k))
      rw [pkK_len] at this
      rw [pkK, this]
    rw [he] at hf
    rw [← h2]
    exact hf.2.2
  refine ⟨h1, ?_, ?_⟩
  · unfold putL
    rw [if_neg hz, if_pos hen, pkK]
    unfold pkE
    rw [h2]
  · unfold putB
    rw [if_neg hz, if_pos hen]
/-- Where an entry begins that is kept. -/
theorem pk_beg (hG : Good size l) (hA : AscP u) (hF : AllF l u) {k : Nat} (hk : k < u.length) : begN (pkK l u u.length) k = endI (pkK l u k) := by
  have h1 : begN (pkK l u u.length) k = begN (pkK l u k) (pkK l u k).length := by
    unfold begN
    rw [pkK_take l u _ _ (by omega), pkK_len, List.take_of_length_le (by rw [pkK_len]; omega)]
  rw [h1]
  exact (beg_good (pk_good hG hA hF (by omega))).2.1
end
/-- The first place at which the order fails. -/
theorem asc_no {u : List Int} {k : Nat} (hk : k < u.length) (h0 : 0 < k) (h : nth u k ≤ nth u (k - 1)) : ¬ AscP u := fun hA => by
  have := hA (k - 1) (by omega)
  rw [show k - 1 + 1 = k by omega] at this
  omega
theorem asc_yes {u : List Int} (h : ∀ i, i < u.length → 0 < i → nth u (i - 1) < nth u i) : AscP u := fun i hi => h (i + 1) hi (by omega)
theorem findI_lt {l : List En} {b : Int} : findI l b < 0 ↔ ¬ findN l b < l.length := by
  unfold findI
  by_cases h : findN l b < l.length
  · rw [if_pos h]; omega
  · rw [if_neg h]; exact ⟨fun _ => h, fun _ => by decide⟩
theorem findI_ge {l : List En} {b : Int} (h : findN l b < l.length) : findI l b = findN l b := if_pos h
end Go.Proofs.Ytcgjhloiokpicaa
