/-
  The first text stays where it is, plainly.
-/
import Derived.Test.YtcgjhloiokpicaaPr
namespace Go.Proofs.Ytcgjhloiokpicaa
open Go.RowKit
set_option linter.unusedVariables false
set_option linter.unusedSimpArgs false
/-- The first entry is this one. -/
def Hd (x0 : En) (l : List En) : Prop := ∃ t, l = x0 :: t
theorem Hd.find {x0 : En} {l : List En} (h : Hd x0 l) (hk : x0.kind = 1) : findN l x0.block = 0 ∧ eth l 0 = x0 ∧ 0 < l.length := by
  obtain ⟨t, rfl⟩ := h
  refine ⟨?_, rfl, by simp⟩
  unfold findN
  rw [List.findIdx_cons]
  have : hitE x0.block x0 = true := by unfold hitE; rw [hk]; simp
  rw [this]
  rfl
theorem Hd.get {x0 : En} {l : List En} (h : Hd x0 l) (hk : x0.kind = 1) : getS l x0.block = x0.s ∧ getE l x0.block = 0 := by
  obtain ⟨h1, h2, h3⟩ := h.find hk
  unfold getS getE
  rw [h1, h2, if_pos h3, if_pos h3]
  exact ⟨rfl, rfl⟩
theorem Hd.other {x0 : En} {l : List En} (h : Hd x0 l) {b : Int} (hb : b ≠ x0.block) (hf : findN l b < l.length) : ∃ k, findN l b = k + 1 := by
  obtain ⟨t, rfl⟩ := h
  refine ⟨t.findIdx (hitE b), ?_⟩
  unfold findN
  rw [List.findIdx_cons]
  have : hitE b x0 = false := by unfold hitE; simp; intro e; exact absurd e.symm hb
  rw [this]
  rfl
theorem Hd.put {x0 : En} {l : List En} (h : Hd x0 l) (hk : x0.kind = 1) (n : Int) (s : ByteArray) : Hd x0 (putL l n s) := by
  obtain ⟨t, rfl⟩ := h
  have hp : putN (x0 :: t) n = t.findIdx (fitE n) + 1 := by
    unfold putN
    rw [List.findIdx_cons]
    have : fitE n x0 = false := by unfold fitE; rw [hk]; rfl
    rw [this]
    rfl
  unfold putL
  by_cases h1 : putN (x0 :: t) n < (x0 :: t).length
  · rw [if_pos h1]
    unfold putAt
    rw [hp]
    exact ⟨_, rfl⟩
  · rw [if_neg h1]
    by_cases h2 : endI (x0 :: t) + n ≤ 4096
    · rw [if_pos h2]; exact ⟨_, rfl⟩
    · rw [if_neg h2]; exact ⟨_, rfl⟩
theorem Hd.PutL {size : Int} {x0 : En} {l : List En} (h : Hd x0 l) (hk : x0.kind = 1) (s : ByteArray) : Hd x0 (PutL size l s) := by
  unfold Go.Proofs.Ytcgjhloiokpicaa.PutL
  by_cases h1 : 2048 < s.size
  · rw [if_pos h1]; exact h
  · rw [if_neg h1]; exact h.put hk _ s
theorem prv_head {x0 z : En} {p : List En} (hk : x0.kind = 1) : ∃ t, (prv (x0 :: p) z).1 = x0 :: t := by
  rcases List.eq_nil_or_concat p with rfl | ⟨q, y, rfl⟩
  · have := prv_snoc [] x0 z
    rw [if_neg (by rw [hk]; decide)] at this
    rw [show [x0] = ([] : List En) ++ [x0] from rfl, this]
    exact ⟨[], rfl⟩
  · rw [List.concat_eq_append, show x0 :: (q ++ [y]) = (x0 :: q) ++ [y] from rfl, prv_snoc]
    by_cases hy : y.kind = 0
    · rw [if_pos hy]; exact ⟨q, rfl⟩
    · rw [if_neg hy]; exact ⟨q ++ [y], rfl⟩
theorem Hd.drop {size : Int} {x0 : En} {l : List En} (h : Hd x0 l) (hk : x0.kind = 1) (hG : Good size l) {k : Nat} (hl : k + 1 < l.length) (h1 : (eth l (k + 1)).kind = 1) : Hd x0 (dropL l (k + 1)) := by
  obtain ⟨e, fm, _, _, _, g4, _⟩ := good_at hG hl
  rw [h1] at g4
  have hp : lastF (l.drop (k + 1 + 1)) = false := run_lastF' g4
  have hs := split_at hl
  have hlen : (l.take (k + 1)).length = k + 1 := by rw [List.length_take]; omega
  have hd := dropL_mid (l.take (k + 1)) (l.drop (k + 1 + 1)) (eth l (k + 1)) hp
  rw [← hs, hlen] at hd
  rw [hd]
  obtain ⟨t, rfl⟩ := h
  rw [List.take_succ_cons]
  obtain ⟨t', ht⟩ := prv_head (x0 := x0) (z := (nxt (fre (eth (x0 :: t) (k + 1))) ((x0 :: t).drop (k + 1 + 1))).1) (p := t.take k) hk
  split
  · exact ⟨t', ht⟩
  · rw [ht]; exact ⟨_, rfl⟩
theorem Hd.FreeL {size : Int} {x0 : En} {l : List En} (h : Hd x0 l) (hk : x0.kind = 1) (hG : Good size l) {b : Int} (hb : b ≠ x0.block) : Hd x0 (FreeL l b) := by
  unfold Go.Proofs.Ytcgjhloiokpicaa.FreeL
  by_cases hf : findN l b < l.length
  · rw [if_pos hf]
    obtain ⟨k, hk2⟩ := h.other hb hf
    have h1 := (find_kind hf).1
    rw [hk2] at hf h1 ⊢
    exact h.drop hk hG hf h1
  · rw [if_neg hf]; exact h
theorem Hd.setS {x0 : En} {l : List En} (h : Hd x0 l) (k : Nat) (s : ByteArray) : Hd x0 (setS l (k + 1) s) := by
  obtain ⟨t, rfl⟩ := h
  exact ⟨_, rfl⟩
theorem Hd.RepL {size : Int} {x0 : En} {l : List En} (h : Hd x0 l) (hk : x0.kind = 1) (hG : Good size l) {b : Int} (hb : b ≠ x0.block) (s : ByteArray) : Hd x0 (RepL size l b s) := by
  unfold Go.Proofs.Ytcgjhloiokpicaa.RepL
  by_cases hf : findN l b < l.length
  · rw [if_pos hf]
    obtain ⟨k, hk2⟩ := h.other hb hf
    have h1 := (find_kind hf).1
    rw [hk2] at hf h1 ⊢
    by_cases hz : 2048 < s.size
    · rw [if_pos hz]; exact h
    · rw [if_neg hz]
      by_cases he : needS size s.size = (eth l (k + 1)).blocks
      · rw [if_pos he]; exact h.setS k s
      · rw [if_neg he]
        by_cases hp : putO (dropL l (k + 1)) (needS size s.size) = true
        · rw [if_pos hp]; exact (h.drop hk hG hf h1).put hk _ s
        · rw [if_neg hp]; exact h
  · rw [if_neg hf]; exact h
/-- The first put. -/
theorem put_first {size : Int} (hs : 16 ≤ size ∧ size ≤ 256) {s : ByteArray} (hz : s.size ≤ 2048) : PutB size [] s = 1 ∧ PutE size [] s = 0 ∧ PutL size [] s = [⟨1, needS size s.size, 1, s⟩] := by
  have hn := need_rng hs (n := s.size) (by omega) (by omega)
  have h1 : ¬ 2048 < s.size := by omega
  have h2 : ¬ putN [] (needS size s.size) < ([] : List En).length := by simp
  have h3 : endI [] + needS size s.size ≤ 4096 := by show (1 : Int) + _ ≤ _; omega
  have ho : putO [] (needS size s.size) = true := by unfold putO; rw [if_neg h2]; simpa using h3
  refine ⟨?_, ?_, ?_⟩
  · unfold PutB putB; rw [if_neg h1, if_pos ho, if_neg h2, if_pos h3]; rfl
  · unfold PutE; rw [if_neg h1, if_pos ho]
  · unfold PutL putL; rw [if_neg h1, if_neg h2, if_pos h3]; rfl
end Go.Proofs.Ytcgjhloiokpicaa
