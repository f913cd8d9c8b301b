/-
  Plain facts about knowledge: intersections, unions and complements of sets as lists.
-/
import Derived.Test.YtffcaoicokookaaT20
namespace Go.Proofs.Ytffcaoicokookaa
open Go.RowKit
theorem join_pw {g : Bool → Bool → Bool} (hg : g false false = false) {l r : List Int} (hl : l.Pairwise (· < ·)) (hr : r.Pairwise (· < ·)) : (joinS g l r).Pairwise (· < ·) := (joinS_spec g hg _ l r (Nat.le_refl _) hl hr).1
theorem join_mem {g : Bool → Bool → Bool} (hg : g false false = false) {l r : List Int} (hl : l.Pairwise (· < ·)) (hr : r.Pairwise (· < ·)) (y : Int) : y ∈ joinS g l r ↔ g (decide (y ∈ l)) (decide (y ∈ r)) = true := (joinS_spec g hg _ l r (Nat.le_refl _) hl hr).2 y
theorem valB_iff {l r : List Int} (hl : isSetS 300 l = true) (hr : isSetS 300 r = true) : valB l r = true ↔ ∀ y ∈ l, y ∈ r := by
  have h : valB l r = decide ((joinS andNot l r).length = 0) := by simp [valB, hl, hr]
  rw [h, decide_eq_true_iff, List.length_eq_zero_iff]
  constructor
  · intro h y hy
    by_cases e : y ∈ r
    · exact e
    · have : y ∈ joinS andNot l r := (join_mem rfl (pw_set hl) (pw_set hr) y).2 (by simp [andNot, hy, e])
      rw [h] at this; simp at this
  · intro h
    cases hj : joinS andNot l r with
    | nil => rfl
    | cons x t =>
      have hx : x ∈ joinS andNot l r := by rw [hj]; simp
      rw [join_mem rfl (pw_set hl) (pw_set hr)] at hx
      simp [andNot] at hx
      exact absurd (h x hx.1) hx.2
theorem up_set {k : Nat} (hk : k ≤ 300) : isSetS 300 (upS k) = true := isSetS_of (pw_up k) fun y hy => by rw [mem_up] at hy; omega
/-- What is known where Not succeeds. -/
structure NF (l r : List Int) (k : Nat) : Prop where
  kk : k ≤ 300
  v : valB l r = true
  sl : isSetS 300 l = true
  sr : isSetS 300 r = true
  rk : isSetS (k : Int) r = true
  sub : ∀ y ∈ l, y ∈ r
  a : notA l r k = joinS andNot (upS k) r
  b : notB l r k = joinS andNot (upS k) l
theorem not_facts {l r : List Int} {N : Int} (h : notOk l r N = true) : ∃ k : Nat, N = k ∧ NF l r k := by
  have h' := h
  simp only [notOk, Bool.and_eq_true] at h
  obtain ⟨k, rfl, hk⟩ := count_of h.1.2
  have s := set_of_valB h.1.1
  exact ⟨k, rfl, hk, h.1.1, s.1, s.2, h.2, (valB_iff s.1 s.2).1 h.1.1, by unfold notA; rw [if_pos h']; rfl, by unfold notB; rw [if_pos h']; rfl⟩
section
variable {l r l' r' : List Int} {k : Nat}
theorem NF.sa (F : NF l r k) : isSetS 300 (notA l r k) = true := by rw [F.a]; exact join_set andNot rfl (up_set F.kk) F.sr
theorem NF.sb (F : NF l r k) : isSetS 300 (notB l r k) = true := by rw [F.b]; exact join_set andNot rfl (up_set F.kk) F.sl
theorem NF.ma (F : NF l r k) (y : Int) : y ∈ notA l r k ↔ (1 ≤ y ∧ y ≤ k) ∧ y ∉ r := by rw [F.a, join_mem rfl (pw_up k) (pw_set F.sr), ← mem_up]; simp [andNot]
theorem NF.mb (F : NF l r k) (y : Int) : y ∈ notB l r k ↔ (1 ≤ y ∧ y ≤ k) ∧ y ∉ l := by rw [F.b, join_mem rfl (pw_up k) (pw_set F.sl), ← mem_up]; simp [andNot]
theorem NF.vn (F : NF l r k) : valB (notA l r k) (notB l r k) = true := by
  rw [valB_iff F.sa F.sb]
  intro y hy
  rw [F.ma] at hy
  rw [F.mb]
  exact ⟨hy.1, fun h => hy.2 (F.sub y h)⟩
theorem NF.ln (F : NF l r k) : (notA l r k).length ≤ 3000 ∧ (notB l r k).length ≤ 3000 := by have := set_len F.sa; have := set_len F.sb; omega
theorem NF.ok2 (F : NF l r k) : notOk (notA l r k) (notB l r k) k = true := by
  have h : isSetS (k : Int) (notB l r k) = true := isSetS_of (pw_set F.sb) fun y hy => by rw [F.mb] at hy; exact hy.1
  have hc : countB (k : Int) = true := by have := F.kk; simp [countB]; omega
  simp only [notOk, F.vn, h, hc, Bool.and_self]
theorem NF.back1 (F : NF l r k) : sameS (notA (notA l r k) (notB l r k) k) l = true := by
  obtain ⟨k', e, G⟩ := not_facts F.ok2
  obtain rfl : k = k' := by omega
  have : notA (notA l r k) (notB l r k) k = l := by
    refine sorted_ext _ _ (pw_set G.sa) (pw_set F.sl) fun y => ?_
    rw [G.ma, F.mb]
    constructor
    · rintro ⟨h1, h2⟩
      by_cases hy : y ∈ l
      · exact hy
      · exact absurd ⟨h1, hy⟩ h2
    · intro hy
      exact ⟨isSetS_mem F.rk (F.sub y hy), fun h => h.2 hy⟩
  rw [this, sameS_refl]
theorem NF.back2 (F : NF l r k) : sameS (notB (notA l r k) (notB l r k) k) r = true := by
  obtain ⟨k', e, G⟩ := not_facts F.ok2
  obtain rfl : k = k' := by omega
  have : notB (notA l r k) (notB l r k) k = r := by
    refine sorted_ext _ _ (pw_set G.sb) (pw_set F.sr) fun y => ?_
    rw [G.mb, F.ma]
    constructor
    · rintro ⟨h1, h2⟩
      by_cases hy : y ∈ r
      · exact hy
      · exact absurd ⟨h1, hy⟩ h2
    · intro hy
      exact ⟨isSetS_mem F.rk hy, fun h => h.2 hy⟩
  rw [this, sameS_refl]
theorem NF.and_ (F : NF l r k) (F' : NF l' r' k) : notOk (joinS and l l') (joinS and r r') k = true := by
  have h1 := join_set and rfl F.sl F'.sl
  have h2 := join_set and rfl F.sr F'.sr
  have hv : valB (joinS and l l') (joinS and r r') = true := by
    rw [valB_iff h1 h2]
    intro y hy
    rw [join_mem rfl (pw_set F.sl) (pw_set F'.sl)] at hy
    rw [join_mem rfl (pw_set F.sr) (pw_set F'.sr)]
    simp at hy ⊢
    exact ⟨F.sub y hy.1, F'.sub y hy.2⟩
  have h : isSetS (k : Int) (joinS and r r') = true := isSetS_of (pw_set h2) fun y hy => by
    rw [join_mem rfl (pw_set F.sr) (pw_set F'.sr)] at hy
    simp at hy
    exact isSetS_mem F.rk hy.1
  have hc : countB (k : Int) = true := by have := F.kk; simp [countB]; omega
  simp only [notOk, hv, h, hc, Bool.and_self]
theorem and_len (F : NF l r k) (F' : NF l' r' k) : (joinS and l l').length ≤ 3000 ∧ (joinS and r r').length ≤ 3000 := by
  have := set_len (join_set and rfl F.sl F'.sl)
  have := set_len (join_set and rfl F.sr F'.sr)
  omega
theorem morgan1 (F : NF l r k) (F' : NF l' r' k) : sameS (notA (joinS and l l') (joinS and r r') k) (joinS or (notA l r k) (notA l' r' k)) = true := by
  obtain ⟨k', e, G⟩ := not_facts (F.and_ F')
  obtain rfl : k = k' := by omega
  have : notA (joinS and l l') (joinS and r r') k = joinS or (notA l r k) (notA l' r' k) := by
    refine sorted_ext _ _ (pw_set G.sa) (join_pw rfl (pw_set F.sa) (pw_set F'.sa)) fun y => ?_
    rw [G.ma, join_mem rfl (pw_set F.sa) (pw_set F'.sa), join_mem rfl (pw_set F.sr) (pw_set F'.sr)]
    simp only [Bool.or_eq_true, Bool.and_eq_true, decide_eq_true_eq, F.ma, F'.ma]
    by_cases h1 : y ∈ r <;> by_cases h2 : y ∈ r' <;> simp [h1, h2]
  rw [this, sameS_refl]
theorem morgan2 (F : NF l r k) (F' : NF l' r' k) : sameS (notB (joinS and l l') (joinS and r r') k) (joinS or (notB l r k) (notB l' r' k)) = true := by
  obtain ⟨k', e, G⟩ := not_facts (F.and_ F')
  obtain rfl : k = k' := by omega
  have : notB (joinS and l l') (joinS and r r') k = joinS or (notB l r k) (notB l' r' k) := by
    refine sorted_ext _ _ (pw_set G.sb) (join_pw rfl (pw_set F.sb) (pw_set F'.sb)) fun y => ?_
    rw [G.mb, join_mem rfl (pw_set F.sb) (pw_set F'.sb), join_mem rfl (pw_set F.sl) (pw_set F'.sl)]
    simp only [Bool.or_eq_true, Bool.and_eq_true, decide_eq_true_eq, F.mb, F'.mb]
    by_cases h1 : y ∈ l <;> by_cases h2 : y ∈ l' <;> simp [h1, h2]
  rw [this, sameS_refl]
end
end Go.Proofs.Ytffcaoicokookaa
