/-
  slices.Delete over a row that is one's own.
-/
import Derived.Test.YtpijfiaecicpfaaDc
namespace Go.Proofs.Ytpijfiaecicpfaa
open Go.RowKit Go.Shelf
set_option linter.unusedVariables false
set_option linter.unusedSimpArgs false
theorem del_N (n i : Nat) (v : Value) (xs : List Value) (w : World) (hi : i < n) (hn : n ≤ 1000000) (hown : w.ownsRow 0 71 2 v n xs) (h1 : ∀ u ∈ xs, u.oneCell' = true) :
    Calls Try.prog 97 #[v, .int .i64 i, .int .i64 ((i + 1 : Nat) : Int)] w fun e w' => ∃ v', e = .returned v' ∧ w'.ownsRow 0 71 2 v' (n - 1) (xs.take (i * 2) ++ xs.drop ((i + 1) * 2)) ∧ Rw v v' w w' := by
  have hxl : xs.length = n * 2 := hown.1
  obtain ⟨g, c, cur, rfl, hg, hnc, hc, hl, ht⟩ := row_open hown (by omega)
  have e1 : cur.take (i * 2) = xs.take (i * 2) := by rw [← ht, List.take_take, Nat.min_eq_left (by omega)]
  have e2 : (cur.drop ((i + 1) * 2)).take ((n - (i + 1)) * 2) = xs.drop ((i + 1) * 2) := by
    rw [← ht, List.drop_take]
    congr 1
    omega
  have hcl : (xs.drop ((i + 1) * 2)).length = (n - (i + 1)) * 2 := by rw [List.length_drop, hxl]; omega
  have hlen : (xs.take (i * 2) ++ xs.drop ((i + 1) * 2)).length = (n - 1) * 2 := by rw [List.length_append, List.length_take, hcl, hxl]; omega
  have hs1 : (splice cur (i * 2) (xs.drop ((i + 1) * 2))).length = c * 2 := by rw [length_splice _ _ _ (by rw [hcl, hl]; omega)]; exact hl
  have hend : ∀ zs : List Value, zs.length = 2 → (splice (splice cur (i * 2) (xs.drop ((i + 1) * 2))) ((n - 1) * 2) zs).length = c * 2 ∧ (splice (splice cur (i * 2) (xs.drop ((i + 1) * 2))) ((n - 1) * 2) zs).take ((n - 1) * 2) = xs.take (i * 2) ++ xs.drop ((i + 1) * 2) := fun zs hz => by
    refine ⟨by rw [length_splice _ _ _ (by rw [hs1, hz]; omega)]; exact hs1, ?_⟩
    have t1 : ∀ L : List Value, (n - 1) * 2 ≤ L.length → (splice L ((n - 1) * 2) zs).take ((n - 1) * 2) = L.take ((n - 1) * 2) := fun L hL => by
      unfold splice
      exact List.take_left' (by rw [List.length_take]; omega)
    rw [t1 _ (by rw [hs1]; omega)]
    unfold splice
    rw [e1]
    first
      | rw [← List.append_assoc, List.take_left' hlen]
      | rw [List.take_left' hlen]
  by_cases hcj : c = i + 1
  · obtain rfl : n = c := by omega
    refine (delB_N g n i (i + 1) cur w rfl (by omega) hcj.symm hc hn hl hg (by rw [ht]; exact h1)).mono ?_
    rintro e w' ⟨rfl, h2, h3⟩
    rw [e2] at h2
    exact ⟨_, rfl, row_shut h2.out (by omega) hc (hend _ rfl).1 hlen (hend _ rfl).2, h3.out, .inl rfl⟩
  · refine (delA_N g n c i (i + 1) cur w rfl (by omega) (by omega) hnc hcj hc hn hl hg (by rw [ht]; exact h1)).mono ?_
    rintro e w' ⟨rfl, h2, h3⟩
    rw [e2] at h2
    exact ⟨_, rfl, row_shut h2.out (by omega) hc (hend _ rfl).1 hlen (hend _ rfl).2, h3.out, .inl rfl⟩
theorem del_K (n i : Nat) (v : Value) (xs : List Value) (w : World) (hi : i < n) (hn : n ≤ 1000000) (hown : w.ownsRow 0 81 1 v n xs) (h1 : ∀ u ∈ xs, u.oneCell' = true) :
    Calls Try.prog 134 #[v, .int .i64 i, .int .i64 ((i + 1 : Nat) : Int)] w fun e w' => ∃ v', e = .returned v' ∧ w'.ownsRow 0 81 1 v' (n - 1) (xs.take (i * 1) ++ xs.drop ((i + 1) * 1)) ∧ Rw v v' w w' := by
  have hxl : xs.length = n * 1 := hown.1
  obtain ⟨g, c, cur, rfl, hg, hnc, hc, hl, ht⟩ := row_open hown (by omega)
  have e1 : cur.take (i * 1) = xs.take (i * 1) := by rw [← ht, List.take_take, Nat.min_eq_left (by omega)]
  have e2 : (cur.drop ((i + 1) * 1)).take ((n - (i + 1)) * 1) = xs.drop ((i + 1) * 1) := by
    rw [← ht, List.drop_take]
    congr 1
    omega
  have hcl : (xs.drop ((i + 1) * 1)).length = (n - (i + 1)) * 1 := by rw [List.length_drop, hxl]; omega
  have hlen : (xs.take (i * 1) ++ xs.drop ((i + 1) * 1)).length = (n - 1) * 1 := by rw [List.length_append, List.length_take, hcl, hxl]; omega
  have hs1 : (splice cur (i * 1) (xs.drop ((i + 1) * 1))).length = c * 1 := by rw [length_splice _ _ _ (by rw [hcl, hl]; omega)]; exact hl
  have hend : ∀ zs : List Value, zs.length = 1 → (splice (splice cur (i * 1) (xs.drop ((i + 1) * 1))) ((n - 1) * 1) zs).length = c * 1 ∧ (splice (splice cur (i * 1) (xs.drop ((i + 1) * 1))) ((n - 1) * 1) zs).take ((n - 1) * 1) = xs.take (i * 1) ++ xs.drop ((i + 1) * 1) := fun zs hz => by
    refine ⟨by rw [length_splice _ _ _ (by rw [hs1, hz]; omega)]; exact hs1, ?_⟩
    have t1 : ∀ L : List Value, (n - 1) * 1 ≤ L.length → (splice L ((n - 1) * 1) zs).take ((n - 1) * 1) = L.take ((n - 1) * 1) := fun L hL => by
      unfold splice
      exact List.take_left' (by rw [List.length_take]; omega)
    rw [t1 _ (by rw [hs1]; omega)]
    unfold splice
    rw [e1]
    first
      | rw [← List.append_assoc, List.take_left' hlen]
      | rw [List.take_left' hlen]
  by_cases hcj : c = i + 1
  · obtain rfl : n = c := by omega
    refine (delB_K g n i (i + 1) cur w rfl (by omega) hcj.symm hc hn hl hg (by rw [ht]; exact h1)).mono ?_
    rintro e w' ⟨rfl, h2, h3⟩
    rw [e2] at h2
    exact ⟨_, rfl, row_shut h2.out (by omega) hc (hend _ rfl).1 hlen (hend _ rfl).2, h3.out, .inl rfl⟩
  · refine (delA_K g n c i (i + 1) cur w rfl (by omega) (by omega) hnc hcj hc hn hl hg (by rw [ht]; exact h1)).mono ?_
    rintro e w' ⟨rfl, h2, h3⟩
    rw [e2] at h2
    exact ⟨_, rfl, row_shut h2.out (by omega) hc (hend _ rfl).1 hlen (hend _ rfl).2, h3.out, .inl rfl⟩
end Go.Proofs.Ytpijfiaecicpfaa
