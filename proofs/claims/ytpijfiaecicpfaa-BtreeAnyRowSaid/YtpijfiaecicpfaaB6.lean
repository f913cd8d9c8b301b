/-
  slices.Clone.
-/
import Derived.Test.YtpijfiaecicpfaaB5
namespace Go.Proofs.Ytpijfiaecicpfaa
open Go.RowKit Go.Shelf
set_option linter.unusedVariables false
set_option linter.unusedSimpArgs false
set_option maxRecDepth 100000 in
set_option maxHeartbeats 4000000 in
theorem clone_N (A : Option Addr) (n c : Nat) (xs : List Value) (w : World) (hn : n ≤ 1000000) (hr : Rd w 2 A n c xs) (h1 : ∀ u ∈ xs, u.oneCell' = true) :
    Calls Try.prog 105 #[.slice A n c] w fun e w' => ∃ v', e = .returned v' ∧ w'.ownsRow w.heap.size 71 2 v' n xs ∧ Ext w w' := by
  obtain ⟨i0, hi, hz0, hz1, hz2⟩ := info_parts infoN
  have hnil := fun w => Lib.run_eql_slice_nil (P := Try.prog) w 92 71 A n c 0 0 Try.underlying92
  rcases A with _ | ad
  · have h0 : n = 0 := by
      rcases Nat.eq_zero_or_pos n with h | h
      · exact h
      · obtain ⟨_, e, _⟩ := hr.2.2.2 h; cases e
    subst h0
    have hx : xs = [] := List.eq_nil_of_length_eq_zero (by have := hr.1; omega)
    subst hx
    clear hr hn
    go_enter Try.func105, Try.ntmps105
    go_wp2
    go_ret
    exact ⟨_, rfl, World.ownsRow_nil _ _ _ _, Ext.refl _⟩
  · have Ho : Hid ((w.alloc (.cells #[] 71)).ownsRow w.heap.size 71 2 (.slice (some ⟨w.heap.size, 0, none⟩) 0 0) 0 []) := World.ownsRow_lit w #[] 0 (Nat.le_refl _) (by decide) rfl
    replace h1 := hid h1
    go_enter Try.func105, Try.ntmps105
    go_wp2_with (at_builtin; refine wpList_appendAny _ rfl _ _ 92 rfl w.heap.size 71 i0 _ 2 24 Try.underlying92 hi hz0 hz1 hz2 rfl (by decide) _ _ _ rfl Ho.out _ _ _ _ rfl (hr.alloc _) h1.out (by unfold maxLen; omega) (by omega) (by simp) ?_)
    intro v' w1 own1 hg1
    have hb1 : Hid (Ext w w1) := Below.grown ((Below.refl _ _).alloc (Nat.le_refl _) _) hg1 (by simp) (fun k hk => by simp [Value.ownBlock] at hk; omega)
    clear hg1
    try simp only [List.nil_append, Nat.zero_add] at own1
    replace own1 := hid own1
    go_wp2
    go_ret
    exact ⟨_, rfl, own1.out, hb1.out⟩
set_option maxRecDepth 100000 in
set_option maxHeartbeats 4000000 in
theorem clone_K (A : Option Addr) (n c : Nat) (xs : List Value) (w : World) (hn : n ≤ 1000000) (hr : Rd w 1 A n c xs) (h1 : ∀ u ∈ xs, u.oneCell' = true) :
    Calls Try.prog 106 #[.slice A n c] w fun e w' => ∃ v', e = .returned v' ∧ w'.ownsRow w.heap.size 81 1 v' n xs ∧ Ext w w' := by
  obtain ⟨i0, hi, hz0, hz1, hz2⟩ := info_parts infoK
  have hnil := fun w => Lib.run_eql_slice_nil (P := Try.prog) w 103 81 A n c 0 0 Try.underlying103
  rcases A with _ | ad
  · have h0 : n = 0 := by
      rcases Nat.eq_zero_or_pos n with h | h
      · exact h
      · obtain ⟨_, e, _⟩ := hr.2.2.2 h; cases e
    subst h0
    have hx : xs = [] := List.eq_nil_of_length_eq_zero (by have := hr.1; omega)
    subst hx
    clear hr hn
    go_enter Try.func106, Try.ntmps106
    go_wp2
    go_ret
    exact ⟨_, rfl, World.ownsRow_nil _ _ _ _, Ext.refl _⟩
  · have Ho : Hid ((w.alloc (.cells #[] 81)).ownsRow w.heap.size 81 1 (.slice (some ⟨w.heap.size, 0, none⟩) 0 0) 0 []) := World.ownsRow_lit w #[] 0 (Nat.le_refl _) (by decide) rfl
    replace h1 := hid h1
    go_enter Try.func106, Try.ntmps106
    go_wp2_with (at_builtin; refine wpList_appendAny _ rfl _ _ 103 rfl w.heap.size 81 i0 _ 1 8 Try.underlying103 hi hz0 hz1 hz2 rfl (by decide) _ _ _ rfl Ho.out _ _ _ _ rfl (hr.alloc _) h1.out (by unfold maxLen; omega) (by omega) (by simp) ?_)
    intro v' w1 own1 hg1
    have hb1 : Hid (Ext w w1) := Below.grown ((Below.refl _ _).alloc (Nat.le_refl _) _) hg1 (by simp) (fun k hk => by simp [Value.ownBlock] at hk; omega)
    clear hg1
    try simp only [List.nil_append, Nat.zero_add] at own1
    replace own1 := hid own1
    go_wp2
    go_ret
    exact ⟨_, rfl, own1.out, hb1.out⟩
end Go.Proofs.Ytpijfiaecicpfaa
