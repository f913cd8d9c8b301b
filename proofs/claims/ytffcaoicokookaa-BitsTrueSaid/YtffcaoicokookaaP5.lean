/-
  Plain facts for what is known of an intersection, a union, a complement, and is true of them.
-/
import Derived.Test.YtffcaoicokookaaP2
namespace Go.Proofs.Ytffcaoicokookaa
open Go.RowKit
set_option linter.unusedVariables false

def selTo (f : Int → Bool) (k : Nat) : List Int := (upS k).filter f
theorem selTo_yes (f : Int → Bool) (k : Nat) (h : f ((k : Int) + 1) = true) : selTo f (k + 1) = selTo f k ++ [(k : Int) + 1] := by simp [selTo, upS_succ, List.filter_append, h]
theorem selTo_no (f : Int → Bool) (k : Nat) (h : f ((k : Int) + 1) = false) : selTo f (k + 1) = selTo f k := by simp [selTo, upS_succ, List.filter_append, h]
theorem mem_sel (f : Int → Bool) (k : Nat) (y : Int) : y ∈ selTo f k ↔ (1 ≤ y ∧ y ≤ k) ∧ f y = true := by rw [selTo, List.mem_filter, mem_up]
theorem sel_set (f : Int → Bool) : isSetS 300 (selTo f 300) = true := isSetS_of ((pw_up 300).filter _) fun y hy => by rw [mem_sel] at hy; omega
theorem sel_len (f : Int → Bool) (k : Nat) : (selTo f k).length ≤ k := by
  have := List.length_filter_le f (upS k)
  rw [upS_len] at this
  exact this
theorem sub_iff {l r : List Int} (hl : isSetS 300 l = true) (hr : isSetS 300 r = true) : decide ((joinS andNot l r).length = 0) = true ↔ ∀ y ∈ l, y ∈ r := by
  have h : valB l r = decide ((joinS andNot l r).length = 0) := by simp [valB, hl, hr]
  rw [← h, valB_iff hl hr]
theorem isA_iff {l r y : List Int} : isA l r y = true ↔ valB l r = true ∧ isSetS 300 y = true ∧ (∀ x ∈ l, x ∈ y) ∧ (∀ x ∈ y, x ∈ r) := by
  unfold isA setOk trueB
  simp only [Bool.and_eq_true]
  constructor
  · rintro ⟨⟨h1, h2⟩, h3, h4⟩
    have s := set_of_valB h1
    exact ⟨h1, h2, (sub_iff s.1 h2).1 h3, (sub_iff h2 s.2).1 h4⟩
  · rintro ⟨h1, h2, h3, h4⟩
    have s := set_of_valB h1
    exact ⟨⟨h1, h2⟩, (sub_iff s.1 h2).2 h3, (sub_iff h2 s.2).2 h4⟩
section
variable {l r y l' r' z : List Int}
def fIn (y z : List Int) (i : Int) : Bool := hasS y i && hasS z i
def fAny (y z : List Int) (i : Int) : Bool := hasS y i || hasS z i
def fNo (y : List Int) (i : Int) : Bool := !hasS y i
theorem true_and (h : isA l r y = true) (h' : isA l' r' z = true) : isA (joinS and l l') (joinS and r r') (selTo (fIn y z) 300) = true := by
  obtain ⟨v, sy, a1, a2⟩ := isA_iff.1 h
  obtain ⟨v', sz, b1, b2⟩ := isA_iff.1 h'
  have s := set_of_valB v
  have s' := set_of_valB v'
  have j1 := join_set and rfl s.1 s'.1
  have j2 := join_set and rfl s.2 s'.2
  have m1 := fun x => join_mem (g := and) rfl (pw_set s.1) (pw_set s'.1) x
  have m2 := fun x => join_mem (g := and) rfl (pw_set s.2) (pw_set s'.2) x
  refine isA_iff.2 ⟨?_, sel_set _, ?_, ?_⟩
  · rw [valB_iff j1 j2]
    intro x hx
    rw [m1] at hx
    rw [m2]
    simp only [Bool.and_eq_true, decide_eq_true_eq] at hx ⊢
    exact ⟨a2 _ (a1 _ hx.1), b2 _ (b1 _ hx.2)⟩
  · intro x hx
    have hr := isSetS_mem j1 hx
    rw [m1] at hx
    simp only [Bool.and_eq_true, decide_eq_true_eq] at hx
    rw [mem_sel]
    refine ⟨⟨by omega, by omega⟩, ?_⟩
    simp only [fIn, hasS_mem, Bool.and_eq_true, decide_eq_true_eq]
    exact ⟨a1 _ hx.1, b1 _ hx.2⟩
  · intro x hx
    rw [mem_sel] at hx
    simp only [fIn, hasS_mem, Bool.and_eq_true, decide_eq_true_eq] at hx
    rw [m2]
    simp only [Bool.and_eq_true, decide_eq_true_eq]
    exact ⟨a2 _ hx.2.1, b2 _ hx.2.2⟩
theorem true_or (h : isA l r y = true) (h' : isA l' r' z = true) : isA (joinS or l l') (joinS or r r') (selTo (fAny y z) 300) = true := by
  obtain ⟨v, sy, a1, a2⟩ := isA_iff.1 h
  obtain ⟨v', sz, b1, b2⟩ := isA_iff.1 h'
  have s := set_of_valB v
  have s' := set_of_valB v'
  have j1 := join_set or rfl s.1 s'.1
  have j2 := join_set or rfl s.2 s'.2
  have m1 := fun x => join_mem (g := or) rfl (pw_set s.1) (pw_set s'.1) x
  have m2 := fun x => join_mem (g := or) rfl (pw_set s.2) (pw_set s'.2) x
  refine isA_iff.2 ⟨?_, sel_set _, ?_, ?_⟩
  · rw [valB_iff j1 j2]
    intro x hx
    rw [m1] at hx
    rw [m2]
    simp only [Bool.or_eq_true, decide_eq_true_eq] at hx ⊢
    exact hx.imp (fun h => a2 _ (a1 _ h)) (fun h => b2 _ (b1 _ h))
  · intro x hx
    have hr := isSetS_mem j1 hx
    rw [m1] at hx
    simp only [Bool.or_eq_true, decide_eq_true_eq] at hx
    rw [mem_sel]
    refine ⟨⟨by omega, by omega⟩, ?_⟩
    simp only [fAny, hasS_mem, Bool.or_eq_true, decide_eq_true_eq]
    exact hx.imp (a1 _) (b1 _)
  · intro x hx
    rw [mem_sel] at hx
    simp only [fAny, hasS_mem, Bool.or_eq_true, decide_eq_true_eq] at hx
    rw [m2]
    simp only [Bool.or_eq_true, decide_eq_true_eq]
    exact hx.2.imp (a2 _) (b2 _)
theorem true_not (h : isA l r y = true) : isA (notA l r 300) (notB l r 300) (selTo (fNo y) 300) = true := by
  obtain ⟨v, sy, a1, a2⟩ := isA_iff.1 h
  have s := set_of_valB v
  have hok : notOk l r 300 = true := by unfold notOk; rw [v, s.2]; decide
  obtain ⟨k, hk, F⟩ := not_facts hok
  obtain rfl : k = 300 := by omega
  have e : ((300 : Nat) : Int) = 300 := rfl
  have ma := F.ma
  have mb := F.mb
  have sa := F.sa
  have sb := F.sb
  have vn := F.vn
  rw [e] at ma mb sa sb vn
  refine isA_iff.2 ⟨vn, sel_set _, ?_, ?_⟩
  · intro x hx
    rw [ma] at hx
    rw [mem_sel]
    refine ⟨hx.1, ?_⟩
    simp only [fNo, hasS_mem, Bool.not_eq_true', decide_eq_false_iff_not]
    exact fun hy => hx.2 (a2 _ hy)
  · intro x hx
    rw [mem_sel] at hx
    simp only [fNo, hasS_mem, Bool.not_eq_true', decide_eq_false_iff_not] at hx
    rw [mb]
    exact ⟨hx.1, fun hl => hx.2 (a1 _ hl)⟩
end
end Go.Proofs.Ytffcaoicokookaa
