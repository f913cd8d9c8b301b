import Derived.Test.YtffcaoicokookaaT7
namespace Go.Proofs.Ytffcaoicokookaa
open Go.RowKit
theorem sorted_ext : ∀ (l m : List Int), l.Pairwise (· < ·) → m.Pairwise (· < ·) → (∀ y, y ∈ l ↔ y ∈ m) → l = m
  | [], [], _, _, _ => rfl
  | [], y :: m, _, _, h => by have := (h y).2 (by simp); simp at this
  | x :: l, [], _, _, h => by have := (h x).1 (by simp); simp at this
  | x :: l, y :: m, hl, hm, h => by
    rw [List.pairwise_cons] at hl hm
    have hx := (h x).1 (by simp)
    have hy := (h y).2 (by simp)
    have hxy : x = y := by
      rcases List.mem_cons.1 hx with e | e
      · exact e
      · rcases List.mem_cons.1 hy with f | f
        · exact f.symm
        · have h1 := hm.1 x e; have h2 := hl.1 y f; omega
    subst hxy
    congr 1
    refine sorted_ext l m hl.2 hm.2 fun z => ?_
    have hz := h z
    constructor
    · intro hzl
      have := hl.1 z hzl
      rcases List.mem_cons.1 (hz.1 (List.mem_cons_of_mem _ hzl)) with e | e
      · omega
      · exact e
    · intro hzm
      have := hm.1 z hzm
      rcases List.mem_cons.1 (hz.2 (List.mem_cons_of_mem _ hzm)) with e | e
      · omega
      · exact e

def JP (g : Bool → Bool → Bool) (a b : List Int) : Prop :=
  (joinS g a b).Pairwise (· < ·) ∧ ∀ y, y ∈ joinS g a b ↔ g (decide (y ∈ a)) (decide (y ∈ b)) = true
theorem pw_if {c : Bool} {x : Int} {s : List Int} (hs : s.Pairwise (· < ·)) (hx : ∀ y ∈ s, x < y) : ((if c then [x] else []) ++ s).Pairwise (· < ·) := by
  cases c
  · simpa using hs
  · simpa using ⟨hx, hs⟩
theorem mem_if {c : Bool} {x y : Int} {s : List Int} : y ∈ (if c then [x] else []) ++ s ↔ (c = true ∧ y = x) ∨ y ∈ s := by
  cases c <;> simp
theorem joinS_spec (g : Bool → Bool → Bool) (hg : g false false = false) : ∀ (k : Nat) (a b : List Int), a.length + b.length ≤ k → a.Pairwise (· < ·) → b.Pairwise (· < ·) → JP g a b := by
  intro k
  induction k with
  | zero =>
    intro a b h _ _
    have ha : a = [] := List.eq_nil_of_length_eq_zero (by omega)
    have hb : b = [] := List.eq_nil_of_length_eq_zero (by omega)
    subst ha hb
    simp [JP, joinS, hg]
  | succ k ih =>
    intro a b h pa pb
    match a, b with
    | [], [] => simp [JP, joinS, hg]
    | x :: a, [] =>
      rw [List.pairwise_cons] at pa
      obtain ⟨p1, p2⟩ := ih a [] (by simp at h ⊢; omega) pa.2 pb
      unfold JP
      rw [joinS]
      have hm : ∀ y ∈ joinS g a [], y ∈ a := by
        intro y hy
        rcases joinS_mem g y _ a [] (Nat.le_refl _) hy with h1 | h1
        · exact h1
        · simp at h1
      refine ⟨pw_if p1 fun y hy => pa.1 y (hm y hy), fun y => ?_⟩
      rw [mem_if, p2]
      by_cases e : y = x
      · subst e
        have : y ∉ a := fun h => by have := pa.1 y h; omega
        simp [this, hg]
      · simp [e]
    | [], x :: b =>
      rw [List.pairwise_cons] at pb
      obtain ⟨p1, p2⟩ := ih [] b (by simp at h ⊢; omega) pa pb.2
      unfold JP
      rw [joinS]
      have hm : ∀ y ∈ joinS g [] b, y ∈ b := by
        intro y hy
        rcases joinS_mem g y _ [] b (Nat.le_refl _) hy with h1 | h1
        · simp at h1
        · exact h1
      refine ⟨pw_if p1 fun y hy => pb.1 y (hm y hy), fun y => ?_⟩
      rw [mem_if, p2]
      by_cases e : y = x
      · subst e
        have : y ∉ b := fun h => by have := pb.1 y h; omega
        simp [this, hg]
      · simp [e]
    | x :: a, z :: b =>
      have pa' := pa
      have pb' := pb
      rw [List.pairwise_cons] at pa pb
      unfold JP
      rw [joinS]
      split
      · rename_i hlt
        obtain ⟨p1, p2⟩ := ih a (z :: b) (by simp at h ⊢; omega) pa.2 pb'
        refine ⟨pw_if p1 fun y hy => ?_, fun y => ?_⟩
        · rcases joinS_mem g y _ a (z :: b) (Nat.le_refl _) hy with h1 | h1
          · exact pa.1 y h1
          · rcases List.mem_cons.1 h1 with rfl | h1
            · exact hlt
            · have := pb.1 y h1; omega
        · rw [mem_if, p2]
          by_cases e : y = x
          · subst e
            have e1 : y ∉ a := fun h => by have := pa.1 y h; omega
            have e2 : y ∉ b := fun h => by have := pb.1 y h; omega
            have e3 : y ≠ z := by omega
            simp [e1, e2, e3, hg]
          · simp [e]
      · split
        · rename_i _ hlt
          obtain ⟨p1, p2⟩ := ih (x :: a) b (by simp at h ⊢; omega) pa' pb.2
          refine ⟨pw_if p1 fun y hy => ?_, fun y => ?_⟩
          · rcases joinS_mem g y _ (x :: a) b (Nat.le_refl _) hy with h1 | h1
            · rcases List.mem_cons.1 h1 with rfl | h1
              · exact hlt
              · have := pa.1 y h1; omega
            · exact pb.1 y h1
          · rw [mem_if, p2]
            by_cases e : y = z
            · subst e
              have e1 : y ∉ a := fun h => by have := pa.1 y h; omega
              have e2 : y ∉ b := fun h => by have := pb.1 y h; omega
              have e3 : y ≠ x := by omega
              simp [e1, e2, e3, hg]
            · simp [e]
        · rename_i h1 h2
          obtain rfl : x = z := by omega
          obtain ⟨p1, p2⟩ := ih a b (by simp at h ⊢; omega) pa.2 pb.2
          refine ⟨pw_if p1 fun y hy => ?_, fun y => ?_⟩
          · rcases joinS_mem g y _ a b (Nat.le_refl _) hy with h1 | h1
            · exact pa.1 y h1
            · exact pb.1 y h1
          · rw [mem_if, p2]
            by_cases e : y = x
            · subst e
              have e1 : y ∉ a := fun h => by have := pa.1 y h; omega
              have e2 : y ∉ b := fun h => by have := pb.1 y h; omega
              simp [e1, e2, hg]
            · simp [e]

theorem pw_of_asc {l : List Int} (h : Asc l) : l.Pairwise (· < ·) := by
  rw [List.pairwise_iff_getElem]
  intro i j hi hj hij
  have := h i j hij hj
  rwa [nth_lt hi, nth_lt hj] at this
theorem pw_set {N : Int} {l : List Int} (h : isSetS N l = true) : l.Pairwise (· < ·) := pw_of_asc (asc_of h)
theorem pw_up (n : Nat) : (upS n).Pairwise (· < ·) := by
  unfold upS
  rw [List.pairwise_map]
  exact List.Pairwise.imp (fun h => by omega) List.pairwise_lt_range
theorem mem_up (n : Nat) (y : Int) : y ∈ upS n ↔ 1 ≤ y ∧ y ≤ n := by
  unfold upS
  rw [List.mem_map]
  constructor
  · rintro ⟨i, hi, rfl⟩
    have := List.mem_range.1 hi
    omega
  · intro h
    exact ⟨(y - 1).toNat, by rw [List.mem_range]; omega, by omega⟩
theorem filtS_all (p : Int → Bool) (l : List Int) : filtS p l l.length = l.filter p := by unfold filtS; rw [List.take_length]
theorem hasS_mem (l : List Int) (y : Int) : hasS l y = decide (y ∈ l) := by simp [hasS]
theorem join_first {l r : List Int} (hl : l.Pairwise (· < ·)) (hr : r.Pairwise (· < ·)) : joinS andNot l r = lessS l r := by
  obtain ⟨h1, h2⟩ := joinS_spec andNot rfl _ l r (Nat.le_refl _) hl hr
  refine sorted_ext _ _ h1 ?_ fun y => ?_
  · unfold lessS; rw [filtS_all]; exact hl.sublist List.filter_sublist
  · rw [h2]
    unfold lessS; rw [filtS_all, List.mem_filter]
    simp [andNot, notHas, hasS_mem]
theorem join_both {l r : List Int} (hl : l.Pairwise (· < ·)) (hr : r.Pairwise (· < ·)) : joinS and l r = interS l r := by
  obtain ⟨h1, h2⟩ := joinS_spec and rfl _ l r (Nat.le_refl _) hl hr
  refine sorted_ext _ _ h1 ?_ fun y => ?_
  · unfold interS; rw [filtS_all]; exact hl.sublist List.filter_sublist
  · rw [h2]
    unfold interS; rw [filtS_all, List.mem_filter]
    simp [hasS_mem]
theorem join_any {l r : List Int} (hl : isSetS 300 l = true) (hr : isSetS 300 r = true) : joinS or l r = eitherS l r := by
  obtain ⟨h1, h2⟩ := joinS_spec or rfl _ l r (Nat.le_refl _) (pw_set hl) (pw_set hr)
  have h3 : eitherS l r = (upS 300).filter (inAny l r) := by
    unfold eitherS
    have := filtS_all (inAny l r) (upS 300)
    rwa [upS_len] at this
  rw [h3]
  refine sorted_ext _ _ h1 ((pw_up 300).sublist List.filter_sublist) fun y => ?_
  rw [h2, List.mem_filter, mem_up]
  simp only [inAny, hasS_mem, Bool.or_eq_true, decide_eq_true_eq]
  constructor
  · intro h
    refine ⟨?_, h⟩
    rcases h with h | h
    · exact isSetS_mem hl h
    · exact isSetS_mem hr h
  · exact fun h => h.2
theorem shift_eq {l r : List Int} (hl : isSetS 300 l = true) (hr : isSetS 300 r = true) : shiftS l r = refShiftS l r := by
  unfold shiftS refShiftS shR mapS
  rw [join_first (pw_set hl) (pw_set hr), List.take_length]
  rfl
end Go.Proofs.Ytffcaoicokookaa
