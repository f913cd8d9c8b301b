/-
  tidy and Free of the reference.
-/
import Derived.Test.YtcgjhloiokpicaaMs
namespace Go.Proofs.Ytcgjhloiokpicaa
open Go.RowKit Go.Shelf
set_option linter.unusedVariables false
set_option linter.unusedSimpArgs false
/-! ### Plainly -/
def stepE (out : List En) (y : En) : List En := if lastF out && (y.kind == 0) then out.dropLast ++ [grow (eth out (out.length - 1)) y.blocks] else out ++ [y]
def tidyL (l : List En) : List En := if lastF (l.foldl stepE []) then (l.foldl stepE []).dropLast else l.foldl stepE []
theorem fold_run {size : Int} : ∀ {l out : List En} {b e : Int} {f f' : Bool}, Run size b f l e f' → (lastF out = true → f = true) → l.foldl stepE out = out ++ l
  | [], out, b, e, f, f', _, _ => by simp
  | x :: l, out, b, e, f, f', ⟨h1, h2, h3, h4⟩, hf => by
    have hs : stepE out x = out ++ [x] := by
      unfold stepE
      rw [if_neg]
      intro h
      rw [Bool.and_eq_true] at h
      exact h3 (hf h.1) (by simpa using h.2)
    rw [List.foldl_cons, hs, fold_run h4 (by rw [lastF_snoc]; exact id)]
    simp
theorem step_prv (pre : List En) (x : En) (hx : x.kind = 0) : stepE pre x = (prv pre x).1 ++ [(prv pre x).2] := by
  unfold stepE
  rcases List.eq_nil_or_concat pre with rfl | ⟨a, z, rfl⟩
  · rfl
  · rw [List.concat_eq_append, lastF_snoc, prv_snoc, hx, List.length_append, List.length_singleton, Nat.add_sub_cancel, eth_mid]
    by_cases hz : z.kind = 0
    · rw [if_pos (by rw [hz]; rfl), if_pos hz, List.dropLast_concat]
    · rw [if_neg (by simpa using hz), if_neg hz]
theorem prv_grow (pre : List En) (x : En) (n : Int) : prv pre (grow x n) = ((prv pre x).1, grow (prv pre x).2 n) := by
  rcases List.eq_nil_or_concat pre with rfl | ⟨a, z, rfl⟩
  · rfl
  · rw [List.concat_eq_append, prv_snoc, prv_snoc]
    by_cases hz : z.kind = 0
    · rw [if_pos hz, if_pos hz]
      simp only [grow, Int.add_assoc]
    · rw [if_neg hz, if_neg hz]
theorem lastF_append (a : List En) {p : List En} (hp : p ≠ []) : lastF (a ++ p) = lastF p := by
  rcases List.eq_nil_or_concat p with rfl | ⟨q, y, rfl⟩
  · exact absurd rfl hp
  · rw [List.concat_eq_append, ← List.append_assoc, lastF_snoc, lastF_snoc]
theorem tidy_drop {size : Int} {l : List En} (h : Good size l) {i : Nat} (hi : i < l.length) (hk : (eth l i).kind = 1) : tidyL (dr1 l i) = dropL l i := by
  obtain ⟨e, fm, h1, h2, h3, h4, h5⟩ := good_at h hi
  rw [hk] at h4
  have h4 : Run size ((eth l i).block + (eth l i).blocks) false (l.drop (i + 1)) e false := h4
  have hpl : (l.take i).length = i := by rw [List.length_take]; omega
  have hd := dropL_mid (l.take i) (l.drop (i + 1)) (eth l i) (run_lastF' h4)
  have hd1 : dr1 l i = l.take i ++ fre (eth l i) :: l.drop (i + 1) := by
    have := set_mid (l.take i) (l.drop (i + 1)) (eth l i) (fre (eth l i))
    rw [hpl, ← split_at hi] at this
    exact this
  rw [hpl, ← split_at hi] at hd
  rw [hd, hd1]
  have hx : (fre (eth l i)).kind = 0 := rfl
  generalize fre (eth l i) = x at *
  generalize l.take i = pre at *
  generalize l.drop (i + 1) = post at *
  have hf : (pre ++ x :: post).foldl stepE [] = post.foldl stepE ((prv pre x).1 ++ [(prv pre x).2]) := by
    rw [List.foldl_append, fold_run h1 (by intro h; cases h), List.nil_append, List.foldl_cons, step_prv _ _ hx]
  have hu := prv_kind pre x hx
  unfold tidyL
  rw [hf]
  cases post with
  | nil =>
    rw [List.foldl_nil, lastF_snoc, hu, if_pos (show ((0 : Int) == 0) = true from rfl), List.dropLast_concat]
    rfl
  | cons y p =>
    rw [nxt_cons]
    by_cases hy : y.kind = 0
    · obtain ⟨r1, r2, r3, r4, r5⟩ := run_free_cons h4 hy
      have hne := run_true_ne r5
      have hs : stepE ((prv pre x).1 ++ [(prv pre x).2]) y = (prv pre x).1 ++ [grow (prv pre x).2 y.blocks] := by
        unfold stepE
        rw [lastF_snoc, hu, hy, if_pos (show (((0 : Int) == 0) && ((0 : Int) == 0)) = true from rfl), List.dropLast_concat, List.length_append, List.length_singleton, Nat.add_sub_cancel, eth_mid]
      rw [List.foldl_cons, hs, fold_run r5 (fun _ => rfl), if_pos hy]
      show _ = if p = [] then (prv pre (grow x y.blocks)).1 else (prv pre (grow x y.blocks)).1 ++ (prv pre (grow x y.blocks)).2 :: p
      rw [if_neg hne, prv_grow, lastF_append _ hne, run_lastF r5 hne, if_neg (by decide)]
      simp
    · rw [fold_run (run_true_cons h4 hy) (fun _ => rfl), if_neg hy]
      show _ = if y :: p = [] then (prv pre x).1 else (prv pre x).1 ++ (prv pre x).2 :: y :: p
      rw [lastF_append _ (by simp), run_lastF h4 (by simp), if_neg (show ¬ (y :: p = []) by simp), if_neg (by decide)]
      simp
theorem rents_set : ∀ (l : List En) (k j : Nat) (u : Value), k < l.length → j < 3 → ∀ x, (∀ i, i < 3 → (rcells x)[i]? = if i = j then some u else (rcells (eth l k))[i]?) → (rents l).set (k * 3 + j) u = rents (l.set k x)
  | y :: l, 0, j, u, _, hj, x, hx => by
    rw [rents, List.set_cons_zero, rents, Nat.zero_mul, Nat.zero_add, List.set_append_left _ _ (by simp [rcells]; omega)]
    congr 1
    have e : eth (y :: l) 0 = y := rfl
    rw [e] at hx
    apply List.ext_getElem?
    intro i
    rcases Nat.lt_or_ge i 3 with hi | hi
    · rw [hx i hi, List.getElem?_set]
      by_cases he : j = i
      · subst he
        rw [if_pos rfl, if_pos rfl, if_pos (by simp [rcells]; omega)]
      · rw [if_neg he, if_neg (by omega)]
    · rw [List.getElem?_eq_none (by simp [rcells]; omega), List.getElem?_eq_none (by simp [rcells]; omega)]
  | y :: l, k + 1, j, u, hk, hj, x, hx => by
    rw [rents, List.set_cons_succ, rents, List.set_append_right _ _ (by simp [rcells]; omega)]
    congr 1
    rw [← rents_set l k j u (by simpa using hk) hj x (by simpa [eth] using hx)]
    congr 1
    simp [rcells]
    omega
/-- A cell of an owned row turns. -/
theorem own_setK {w : World} {B g n c o sz : Nat} {t : TypeId} {u : Value} {xs : List Value} (h : w.ownsRow B t sz (.slice (some ⟨g, 0, none⟩) n c) n xs) : (w.setCell ⟨g, o, none⟩ u).ownsRow B t sz (.slice (some ⟨g, 0, none⟩) n c) n (xs.set o u) := by
  have hl := h.1
  rcases h.2 with ⟨hv, _⟩ | ⟨g', cap, cur, hv, hB, hg, hn, hc, hs, ht⟩
  · cases hv
  · injection hv with e1 _ e3
    injection e1 with e1
    injection e1 with e1
    subst e1 e3
    refine ⟨by rw [List.length_set]; exact hl, .inr ⟨g, c, cur.setIfInBounds o u, rfl, hB, ?_, hn, hc, by simpa using hs, ?_⟩⟩
    · simp [World.setCell, Array.getElem?_modify, hg]
    · rw [Array.toList_setIfInBounds, List.take_set, ht]
theorem own_takeK {w : World} {B g n m c sz : Nat} {t : TypeId} {xs : List Value} (h : w.ownsRow B t sz (.slice (some ⟨g, 0, none⟩) n c) n xs) (hm : m ≤ n) : w.ownsRow B t sz (.slice (some ⟨g, 0, none⟩) m c) m (xs.take (m * sz)) := by
  have hl := h.1
  rcases h.2 with ⟨hv, _⟩ | ⟨g', cap, cur, hv, hB, hg, hn, hc, hs, ht⟩
  · cases hv
  · injection hv with e1 _ e3
    injection e1 with e1
    injection e1 with e1
    subst e1 e3
    refine ⟨by rw [List.length_take, hl]; apply Nat.min_eq_left; exact Nat.mul_le_mul_right _ hm, .inr ⟨g, c, cur, rfl, hB, hg, by omega, hc, hs, ?_⟩⟩
    rw [← ht, List.take_take, Nat.min_eq_left (Nat.mul_le_mul_right _ hm)]
theorem own_sliceK {w : World} {b n sz : Nat} {e : TypeId} {v : Value} {xs : List Value} (h : w.ownsRow b e sz v n xs) (hn : 0 < n) : ∃ (g c : Nat), v = .slice (some ⟨g, 0, none⟩) n c ∧ b ≤ g ∧ g < w.heap.size ∧ n ≤ c ∧ c ≤ 9223372036854775807 ∧ ∀ o, w.frozen? ⟨g, o, none⟩ = false := by
  rcases h.2 with ⟨_, h0⟩ | ⟨g, cap, cur, rfl, hB, hg, h1, h2, _⟩
  · omega
  · exact ⟨g, cap, rfl, hB, (Array.getElem?_eq_some_iff.1 hg).1, h1, h2, fun o => Lib.frozen_of_heap hg o⟩
theorem own_entR {w : World} {b g n c : Nat} {l : List En} (h : w.ownsRow b 87 3 (.slice (some ⟨g, 0, none⟩) n c) n (rents l)) {k : Nat} (hk : k < l.length) : w.cell? ⟨g, k * 3, none⟩ = some (.int .i64 (eth l k).blocks) ∧ w.cell? ⟨g, k * 3 + 1, none⟩ = some (.bool ((eth l k).kind == 0)) ∧ w.cell? ⟨g, k * 3 + 2, none⟩ = some (.string (eth l k).s) := by
  have ha : ∀ o, (⟨g, 0, none⟩ : Addr).add o = ⟨g, o, none⟩ := fun o => by unfold Addr.add; split <;> simp_all
  have hc := fun j (hj : j < 3) u (hu : (rcells l[k])[j]? = some u) => h.cells (g := g) rfl (k * 3 + j) u (by rw [rents_at l k hk j hj]; exact hu)
  simp only [ha] at hc
  rw [eth_get hk]
  exact ⟨hc 0 (by decide) _ rfl, hc 1 (by decide) _ rfl, hc 2 (by decide) _ rfl⟩
end Go.Proofs.Ytcgjhloiokpicaa
