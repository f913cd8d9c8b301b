/-
  The laws of comparing.
-/
import Derived.Test.YtkjcfnmbnddhjaaDoorVb3
namespace Go.Proofs.YtkjcfnmbnddhjaaDoor
open Go.RowKit
set_option linter.unusedVariables false
set_option linter.unusedSimpArgs false
theorem cmp_rng : ∀ a b : List UInt8, -1 ≤ Lib.compareBytes a b ∧ Lib.compareBytes a b ≤ 1
  | [], [] => by decide
  | [], _ :: _ => by simp [Lib.compareBytes]
  | _ :: _, [] => by simp [Lib.compareBytes]
  | x :: a, y :: b => by
    have h := cmp_rng a b
    unfold Lib.compareBytes
    repeat' split
    all_goals omega
theorem cmp_flip : ∀ a b : List UInt8, Lib.compareBytes b a = - Lib.compareBytes a b
  | [], [] => by simp [Lib.compareBytes]
  | [], _ :: _ => by simp [Lib.compareBytes]
  | _ :: _, [] => by simp [Lib.compareBytes]
  | x :: a, y :: b => by
    have ih := cmp_flip a b
    unfold Lib.compareBytes
    by_cases h1 : x < y
    · have h2 : ¬ y < x := fun h => by have := UInt8.lt_iff_toNat_lt.1 h; have := UInt8.lt_iff_toNat_lt.1 h1; omega
      rw [if_pos h1, if_neg h2, if_pos h1]; decide
    · by_cases h2 : y < x
      · rw [if_pos h2, if_neg h1, if_pos h2]
      · rw [if_neg h2, if_neg h1, if_neg h1, if_neg h2]; exact ih
theorem cmp_trans : ∀ a b c : List UInt8, Lib.compareBytes a b ≤ 0 → Lib.compareBytes b c ≤ 0 → Lib.compareBytes a c ≤ 0
  | [], b, c, _, _ => by cases c <;> simp [Lib.compareBytes]
  | _ :: _, [], c, h, _ => by simp [Lib.compareBytes] at h
  | _ :: _, _ :: _, [], _, h => by simp [Lib.compareBytes] at h
  | x :: a, y :: b, z :: c, h1, h2 => by
    have ih := cmp_trans a b c
    unfold Lib.compareBytes at h1 h2 ⊢
    simp only [UInt8.lt_iff_toNat_lt] at h1 h2 ⊢
    by_cases a1 : x.toNat < y.toNat
    · by_cases a2 : y.toNat < z.toNat
      · rw [if_pos (by omega)]; decide
      · rw [if_neg a2] at h2
        by_cases a3 : z.toNat < y.toNat
        · rw [if_pos a3] at h2; simp at h2
        · rw [if_pos (by omega)]; decide
    · rw [if_neg a1] at h1
      by_cases a2 : y.toNat < x.toNat
      · rw [if_pos a2] at h1; simp at h1
      · rw [if_neg a2] at h1
        by_cases a3 : y.toNat < z.toNat
        · rw [if_pos (by omega)]; decide
        · rw [if_neg a3] at h2
          by_cases a4 : z.toNat < y.toNat
          · rw [if_pos a4] at h2; simp at h2
          · rw [if_neg a4] at h2
            rw [if_neg (by omega), if_neg (by omega)]
            exact ih h1 h2
theorem cmpI_flip (a b : Int) : cmpI b a = - cmpI a b := by
  unfold cmpI
  by_cases h1 : a < b
  · rw [if_neg (by omega), if_pos h1, if_pos h1]; rfl
  · by_cases h2 : b < a
    · rw [if_pos h2, if_neg h1, if_pos h2]
    · rw [if_neg h2, if_neg h1, if_neg h1, if_neg h2]; rfl
theorem cmpI_rng (a b : Int) : -1 ≤ cmpI a b ∧ cmpI a b ≤ 1 := by unfold cmpI; repeat' split <;> omega
theorem cmpI_trans (a b c : Int) (h1 : cmpI a b ≤ 0) (h2 : cmpI b c ≤ 0) : cmpI a c ≤ 0 := by
  have e1 : ¬ b < a := fun h => by unfold cmpI at h1; rw [if_neg (by omega), if_pos h] at h1; omega
  have e2 : ¬ c < b := fun h => by unfold cmpI at h2; rw [if_neg (by omega), if_pos h] at h2; omega
  unfold cmpI
  split
  · omega
  · rw [if_neg (by omega)]; omega
theorem cmpE_ok {k n : Int} {s : ByteArray} {k' n' : Int} {s' : ByteArray} : cmpE k n s k' n' s' = 0 ↔ valE k n s = 0 ∧ valE k' n' s' = 0 ∧ k = k' ∧ k ≠ 0 := by
  constructor
  · intro h
    unfold cmpE at h
    split at h
    · rename_i hb; exact absurd h hb
    · rename_i hb
      have hb : bothE k n s k' n' s' = 0 := by simpa using hb
      split at h
      · cases h
      · rename_i hk
        have hv : valE k n s = 0 := by
          unfold bothE at hb
          split at hb
          · rename_i q; exact absurd hb q
          · rename_i q; simpa using q
        have hv' : valE k' n' s' = 0 := by unfold bothE at hb; rw [if_neg (by simpa using hv)] at hb; exact hb
        exact ⟨hv, hv', Decidable.byContradiction fun q => hk (Or.inl q), fun q => hk (Or.inr q)⟩
  · rintro ⟨h1, h2, h3, h4⟩
    have hb : bothE k n s k' n' s' = 0 := by unfold bothE; rw [if_neg (by simpa using h1)]; exact h2
    unfold cmpE
    rw [if_neg (by simpa using hb), if_neg (by subst h3; simp [h4])]
theorem cmpO_ok {k n : Int} {s : ByteArray} {k' n' : Int} {s' : ByteArray} (h : cmpE k n s k' n' s' = 0) : cmpO k n s k' n' s' = if k = 4 then Lib.compareBytes s.toList s'.toList else cmpI n n' := by
  obtain ⟨h1, h2, h3, h4⟩ := cmpE_ok.1 h
  have hb : bothE k n s k' n' s' = 0 := by unfold bothE; rw [if_neg (by simpa using h1)]; exact h2
  unfold cmpO
  rw [if_neg (by simpa using hb), if_neg (by subst h3; simp [h4])]
theorem cmpE_flip {k n : Int} {s : ByteArray} {k' n' : Int} {s' : ByteArray} : cmpE k' n' s' k n s = 0 ↔ cmpE k n s k' n' s' = 0 := by
  rw [cmpE_ok, cmpE_ok]
  constructor
  · rintro ⟨a, b, c, d⟩; exact ⟨b, a, c.symm, by rw [← c]; exact d⟩
  · rintro ⟨a, b, c, d⟩; exact ⟨b, a, c.symm, by rw [← c]; exact d⟩
theorem cmpO_flip {k n : Int} {s : ByteArray} {k' n' : Int} {s' : ByteArray} (h : cmpE k n s k' n' s' = 0) : cmpO k' n' s' k n s = - cmpO k n s k' n' s' := by
  have hk := (cmpE_ok.1 h).2.2.1
  rw [cmpO_ok h, cmpO_ok (cmpE_flip.2 h), ← hk]
  by_cases h4 : k = 4
  · rw [if_pos h4, if_pos h4]; exact cmp_flip _ _
  · rw [if_neg h4, if_neg h4]; exact cmpI_flip _ _
theorem cmpO_rng {k n : Int} {s : ByteArray} {k' n' : Int} {s' : ByteArray} (h : cmpE k n s k' n' s' = 0) : -1 ≤ cmpO k n s k' n' s' ∧ cmpO k n s k' n' s' ≤ 1 := by
  rw [cmpO_ok h]
  split
  · exact cmp_rng _ _
  · exact cmpI_rng _ _
theorem cmpE_trans {k n k' n' k'' n'' : Int} {s s' s'' : ByteArray} (h1 : cmpE k n s k' n' s' = 0) (h2 : cmpE k' n' s' k'' n'' s'' = 0) : cmpE k n s k'' n'' s'' = 0 := by
  obtain ⟨a, b, c, d⟩ := cmpE_ok.1 h1
  obtain ⟨a', b', c', d'⟩ := cmpE_ok.1 h2
  exact cmpE_ok.2 ⟨a, b', c.trans c', d⟩
theorem cmpO_trans {k n k' n' k'' n'' : Int} {s s' s'' : ByteArray} (h1 : cmpE k n s k' n' s' = 0) (h2 : cmpE k' n' s' k'' n'' s'' = 0) (l1 : cmpO k n s k' n' s' ≤ 0) (l2 : cmpO k' n' s' k'' n'' s'' ≤ 0) : cmpO k n s k'' n'' s'' ≤ 0 := by
  have hk := (cmpE_ok.1 h1).2.2.1
  rw [cmpO_ok h1] at l1
  rw [cmpO_ok h2, ← hk] at l2
  rw [cmpO_ok (cmpE_trans h1 h2)]
  by_cases h4 : k = 4
  · rw [if_pos h4] at l1 l2 ⊢; exact cmp_trans _ _ _ l1 l2
  · rw [if_neg h4] at l1 l2 ⊢; exact cmpI_trans _ _ _ l1 l2
set_option maxRecDepth 100000 in
set_option maxHeartbeats 8000000 in
theorem compares_law (k n : Int) (s : ByteArray) (k' n' : Int) (s' : ByteArray) (w : World) (_ : (Lit.int .i64 k).wf = true) (_ : (Lit.int .i64 n).wf = true) (hs : s.size ≤ maxLen) (_ : (Lit.int .i64 k').wf = true) (_ : (Lit.int .i64 n').wf = true) (hs' : s'.size ≤ maxLen) : Calls Tryd.prog 7 #[vV k n s, vV k' n' s'] w (Give (.bool true) w) := by
  unfold vV
  clear hs hs'
  go_enter Tryd.func7, Tryd.ntmps7
  go_wp2_with fail
  · refine (known_any _).mono ?_
    rintro e w1 ⟨rfl, hx1⟩
    have c0_0_0 : w1.cell? ⟨w.heap.size, 0, none⟩ = some (.int .i64 k) := hx1.cell (by go_simp)
    have c0_0_1 : w1.cell? ⟨w.heap.size, 1, none⟩ = some (.int .i64 n) := hx1.cell (by go_simp)
    have c0_0_2 : w1.cell? ⟨w.heap.size, 2, none⟩ = some (.string s) := hx1.cell (by go_simp)
    have c0_1_0 : w1.cell? ⟨w.heap.size + 1, 0, none⟩ = some (.int .i64 k') := hx1.cell (by go_simp)
    have c0_1_1 : w1.cell? ⟨w.heap.size + 1, 1, none⟩ = some (.int .i64 n') := hx1.cell (by go_simp)
    have c0_1_2 : w1.cell? ⟨w.heap.size + 1, 2, none⟩ = some (.string s') := hx1.cell (by go_simp)
    have hE := hid (Ext.trans (((Ext.refl w).alloc_right _).alloc_right _) hx1)
    have lt_1 : w.heap.size < w1.heap.size := World.block_lt_of_cell? w1 _ c0_0_0
    have lt_2 : w.heap.size + 1 < w1.heap.size := World.block_lt_of_cell? w1 _ c0_1_0
    clear hx1
    go_wp2
    go_ret
    exact ⟨rfl, hE.out⟩
  · refine (Compare_any k n s k' n' s' _).mono ?_
    rintro e w1 ⟨rfl, hx1⟩
    have c0_0_0 : w1.cell? ⟨w.heap.size, 0, none⟩ = some (.int .i64 k) := hx1.cell (by go_simp)
    have c0_0_1 : w1.cell? ⟨w.heap.size, 1, none⟩ = some (.int .i64 n) := hx1.cell (by go_simp)
    have c0_0_2 : w1.cell? ⟨w.heap.size, 2, none⟩ = some (.string s) := hx1.cell (by go_simp)
    have c0_1_0 : w1.cell? ⟨w.heap.size + 1, 0, none⟩ = some (.int .i64 k') := hx1.cell (by go_simp)
    have c0_1_1 : w1.cell? ⟨w.heap.size + 1, 1, none⟩ = some (.int .i64 n') := hx1.cell (by go_simp)
    have c0_1_2 : w1.cell? ⟨w.heap.size + 1, 2, none⟩ = some (.string s') := hx1.cell (by go_simp)
    have hE := hid (Ext.trans (((Ext.refl w).alloc_right _).alloc_right _) hx1)
    have lt_1 : w.heap.size < w1.heap.size := World.block_lt_of_cell? w1 _ c0_0_0
    have lt_2 : w.heap.size + 1 < w1.heap.size := World.block_lt_of_cell? w1 _ c0_1_0
    clear hx1
    go_wp2_with fail
    refine (rCompare_any k n s k' n' s' _).mono ?_
    rintro e w2 ⟨rfl, hx2⟩
    replace c0_0_0 := hx2.cell c0_0_0
    replace c0_0_1 := hx2.cell c0_0_1
    replace c0_0_2 := hx2.cell c0_0_2
    replace c0_1_0 := hx2.cell c0_1_0
    replace c0_1_1 := hx2.cell c0_1_1
    replace c0_1_2 := hx2.cell c0_1_2
    replace hE := hid (Ext.trans hE.out hx2)
    clear lt_1
    have lt_1 : w.heap.size < w2.heap.size := World.block_lt_of_cell? w2 _ c0_0_0
    clear lt_2
    have lt_2 : w.heap.size + 1 < w2.heap.size := World.block_lt_of_cell? w2 _ c0_1_0
    clear hx2
    generalize cmpO k n s k' n' s' = O
    generalize cmpE k n s k' n' s' = E
    go_wp2_with fail
    refine (known_any _).mono ?_
    rintro e w3 ⟨rfl, hx3⟩
    replace c0_0_0 := hx3.cell c0_0_0
    replace c0_0_1 := hx3.cell c0_0_1
    replace c0_0_2 := hx3.cell c0_0_2
    replace c0_1_0 := hx3.cell c0_1_0
    replace c0_1_1 := hx3.cell c0_1_1
    replace c0_1_2 := hx3.cell c0_1_2
    replace hE := hid (Ext.trans hE.out hx3)
    clear lt_1
    have lt_1 : w.heap.size < w3.heap.size := World.block_lt_of_cell? w3 _ c0_0_0
    clear lt_2
    have lt_2 : w.heap.size + 1 < w3.heap.size := World.block_lt_of_cell? w3 _ c0_1_0
    clear hx3
    go_wp2
    go_ret
    exact ⟨rfl, hE.out⟩
set_option maxRecDepth 100000 in
set_option maxHeartbeats 8000000 in
theorem orders_law (k n : Int) (s : ByteArray) (k' n' : Int) (s' : ByteArray) (k'' n'' : Int) (s'' : ByteArray) (w : World) (_ : (Lit.int .i64 k).wf = true) (_ : (Lit.int .i64 n).wf = true) (hs : s.size ≤ maxLen) (_ : (Lit.int .i64 k').wf = true) (_ : (Lit.int .i64 n').wf = true) (hs' : s'.size ≤ maxLen) (_ : (Lit.int .i64 k'').wf = true) (_ : (Lit.int .i64 n'').wf = true) (hs'' : s''.size ≤ maxLen) : Calls Tryd.prog 8 #[vV k n s, vV k' n' s', vV k'' n'' s''] w (Give (.bool true) w) := by
  unfold vV
  clear hs hs' hs''
  go_enter Tryd.func8, Tryd.ntmps8
  go_wp2_with fail
  · refine (known_any _).mono ?_
    rintro e w1 ⟨rfl, hx1⟩
    have c0_0_0 : w1.cell? ⟨w.heap.size, 0, none⟩ = some (.int .i64 k) := hx1.cell (by go_simp)
    have c0_0_1 : w1.cell? ⟨w.heap.size, 1, none⟩ = some (.int .i64 n) := hx1.cell (by go_simp)
    have c0_0_2 : w1.cell? ⟨w.heap.size, 2, none⟩ = some (.string s) := hx1.cell (by go_simp)
    have c0_1_0 : w1.cell? ⟨w.heap.size + 1, 0, none⟩ = some (.int .i64 k') := hx1.cell (by go_simp)
    have c0_1_1 : w1.cell? ⟨w.heap.size + 1, 1, none⟩ = some (.int .i64 n') := hx1.cell (by go_simp)
    have c0_1_2 : w1.cell? ⟨w.heap.size + 1, 2, none⟩ = some (.string s') := hx1.cell (by go_simp)
    have c0_2_0 : w1.cell? ⟨w.heap.size + 1 + 1, 0, none⟩ = some (.int .i64 k'') := hx1.cell (by go_simp)
    have c0_2_1 : w1.cell? ⟨w.heap.size + 1 + 1, 1, none⟩ = some (.int .i64 n'') := hx1.cell (by go_simp)
    have c0_2_2 : w1.cell? ⟨w.heap.size + 1 + 1, 2, none⟩ = some (.string s'') := hx1.cell (by go_simp)
    have hE := hid (Ext.trans ((((Ext.refl w).alloc_right _).alloc_right _).alloc_right _) hx1)
    have lt_1 : w.heap.size < w1.heap.size := World.block_lt_of_cell? w1 _ c0_0_0
    have lt_2 : w.heap.size + 1 < w1.heap.size := World.block_lt_of_cell? w1 _ c0_1_0
    have lt_3 : w.heap.size + 1 + 1 < w1.heap.size := World.block_lt_of_cell? w1 _ c0_2_0
    clear hx1
    go_wp2
    go_ret
    exact ⟨rfl, hE.out⟩
  · refine (Compare_any k n s k' n' s' _).mono ?_
    rintro e w1 ⟨rfl, hx1⟩
    have c0_0_0 : w1.cell? ⟨w.heap.size, 0, none⟩ = some (.int .i64 k) := hx1.cell (by go_simp)
    have c0_0_1 : w1.cell? ⟨w.heap.size, 1, none⟩ = some (.int .i64 n) := hx1.cell (by go_simp)
    have c0_0_2 : w1.cell? ⟨w.heap.size, 2, none⟩ = some (.string s) := hx1.cell (by go_simp)
    have c0_1_0 : w1.cell? ⟨w.heap.size + 1, 0, none⟩ = some (.int .i64 k') := hx1.cell (by go_simp)
    have c0_1_1 : w1.cell? ⟨w.heap.size + 1, 1, none⟩ = some (.int .i64 n') := hx1.cell (by go_simp)
    have c0_1_2 : w1.cell? ⟨w.heap.size + 1, 2, none⟩ = some (.string s') := hx1.cell (by go_simp)
    have c0_2_0 : w1.cell? ⟨w.heap.size + 1 + 1, 0, none⟩ = some (.int .i64 k'') := hx1.cell (by go_simp)
    have c0_2_1 : w1.cell? ⟨w.heap.size + 1 + 1, 1, none⟩ = some (.int .i64 n'') := hx1.cell (by go_simp)
    have c0_2_2 : w1.cell? ⟨w.heap.size + 1 + 1, 2, none⟩ = some (.string s'') := hx1.cell (by go_simp)
    have hE := hid (Ext.trans ((((Ext.refl w).alloc_right _).alloc_right _).alloc_right _) hx1)
    have lt_1 : w.heap.size < w1.heap.size := World.block_lt_of_cell? w1 _ c0_0_0
    have lt_2 : w.heap.size + 1 < w1.heap.size := World.block_lt_of_cell? w1 _ c0_1_0
    have lt_3 : w.heap.size + 1 + 1 < w1.heap.size := World.block_lt_of_cell? w1 _ c0_2_0
    clear hx1
    go_wp2_with fail
    refine (Compare_any k' n' s' k n s _).mono ?_
    rintro e w2 ⟨rfl, hx2⟩
    replace c0_0_0 := hx2.cell c0_0_0
    replace c0_0_1 := hx2.cell c0_0_1
    replace c0_0_2 := hx2.cell c0_0_2
    replace c0_1_0 := hx2.cell c0_1_0
    replace c0_1_1 := hx2.cell c0_1_1
    replace c0_1_2 := hx2.cell c0_1_2
    replace c0_2_0 := hx2.cell c0_2_0
    replace c0_2_1 := hx2.cell c0_2_1
    replace c0_2_2 := hx2.cell c0_2_2
    replace hE := hid (Ext.trans hE.out hx2)
    clear lt_1
    have lt_1 : w.heap.size < w2.heap.size := World.block_lt_of_cell? w2 _ c0_0_0
    clear lt_2
    have lt_2 : w.heap.size + 1 < w2.heap.size := World.block_lt_of_cell? w2 _ c0_1_0
    clear lt_3
    have lt_3 : w.heap.size + 1 + 1 < w2.heap.size := World.block_lt_of_cell? w2 _ c0_2_0
    clear hx2
    go_wp2_with fail
    refine (Compare_any k' n' s' k'' n'' s'' _).mono ?_
    rintro e w3 ⟨rfl, hx3⟩
    replace c0_0_0 := hx3.cell c0_0_0
    replace c0_0_1 := hx3.cell c0_0_1
    replace c0_0_2 := hx3.cell c0_0_2
    replace c0_1_0 := hx3.cell c0_1_0
    replace c0_1_1 := hx3.cell c0_1_1
    replace c0_1_2 := hx3.cell c0_1_2
    replace c0_2_0 := hx3.cell c0_2_0
    replace c0_2_1 := hx3.cell c0_2_1
    replace c0_2_2 := hx3.cell c0_2_2
    replace hE := hid (Ext.trans hE.out hx3)
    clear lt_1
    have lt_1 : w.heap.size < w3.heap.size := World.block_lt_of_cell? w3 _ c0_0_0
    clear lt_2
    have lt_2 : w.heap.size + 1 < w3.heap.size := World.block_lt_of_cell? w3 _ c0_1_0
    clear lt_3
    have lt_3 : w.heap.size + 1 + 1 < w3.heap.size := World.block_lt_of_cell? w3 _ c0_2_0
    clear hx3
    go_wp2_with fail
    refine (Compare_any k n s k'' n'' s'' _).mono ?_
    rintro e w4 ⟨rfl, hx4⟩
    replace c0_0_0 := hx4.cell c0_0_0
    replace c0_0_1 := hx4.cell c0_0_1
    replace c0_0_2 := hx4.cell c0_0_2
    replace c0_1_0 := hx4.cell c0_1_0
    replace c0_1_1 := hx4.cell c0_1_1
    replace c0_1_2 := hx4.cell c0_1_2
    replace c0_2_0 := hx4.cell c0_2_0
    replace c0_2_1 := hx4.cell c0_2_1
    replace c0_2_2 := hx4.cell c0_2_2
    replace hE := hid (Ext.trans hE.out hx4)
    clear lt_1
    have lt_1 : w.heap.size < w4.heap.size := World.block_lt_of_cell? w4 _ c0_0_0
    clear lt_2
    have lt_2 : w.heap.size + 1 < w4.heap.size := World.block_lt_of_cell? w4 _ c0_1_0
    clear lt_3
    have lt_3 : w.heap.size + 1 + 1 < w4.heap.size := World.block_lt_of_cell? w4 _ c0_2_0
    clear hx4
    clear c0_0_0 c0_0_1 c0_0_2 c0_1_0 c0_1_1 c0_1_2 c0_2_0 c0_2_1 c0_2_2 lt_1 lt_2 lt_3
    by_cases he : cmpE k n s k' n' s' = 0
    · have hf := cmpE_flip.2 he
      have hr := cmpO_rng he
      rw [cmpO_flip he, he, hf]
      by_cases hg : cmpE k' n' s' k'' n'' s'' = 0
      · have hh := cmpE_trans he hg
        have hr2 := cmpO_rng hg
        have hr3 := cmpO_rng hh
        have ht := hid (cmpO_trans he hg)
        rw [hg, hh]
        clear he hf hg hh
        generalize cmpO k n s k' n' s' = X at *
        generalize cmpO k' n' s' k'' n'' s'' = Z at *
        generalize cmpO k n s k'' n'' s'' = U at *
        have m1 : X = -1 ∨ X = 0 ∨ X = 1 := by omega
        have m2 : Z = -1 ∨ Z = 0 ∨ Z = 1 := by omega
        have m3 : U = -1 ∨ U = 0 ∨ U = 1 := by omega
        clear hr hr2 hr3
        rcases m1 with rfl | rfl | rfl <;> rcases m2 with rfl | rfl | rfl <;> rcases m3 with rfl | rfl | rfl <;> (first | (exfalso; have := ht.out (by decide) (by decide); revert this; decide) | skip)
        all_goals clear ht
        all_goals
          go_wp2_with fail
          refine (known_any _).mono ?_
          rintro e w10 ⟨rfl, hx10⟩
          replace hE := hid (Ext.trans hE.out hx10)
          clear hx10
          go_wp2
          go_ret
          exact ⟨rfl, hE.out⟩
      · have hg2 : (cmpE k' n' s' k'' n'' s'' == 0) = false := by simpa using hg
        clear he hf hg
        generalize cmpO k n s k' n' s' = X at *
        generalize cmpO k' n' s' k'' n'' s'' = Z at *
        generalize cmpO k n s k'' n'' s'' = U at *
        generalize cmpE k' n' s' k'' n'' s'' = G at *
        generalize cmpE k n s k'' n'' s'' = H at *
        have m1 : X = -1 ∨ X = 0 ∨ X = 1 := by omega
        clear hr
        rcases m1 with rfl | rfl | rfl
        all_goals
          go_wp2_with fail
          refine (known_any _).mono ?_
          rintro e w10 ⟨rfl, hx10⟩
          replace hE := hid (Ext.trans hE.out hx10)
          clear hx10
          go_wp2
          go_ret
          exact ⟨rfl, hE.out⟩
    · have hf : ¬ cmpE k' n' s' k n s = 0 := fun h => he (cmpE_flip.1 h)
      have he2 : (cmpE k n s k' n' s' == 0) = false := by simpa using he
      have hf2 : (cmpE k' n' s' k n s == 0) = false := by simpa using hf
      clear he hf
      generalize cmpO k n s k' n' s' = X at *
      generalize cmpO k' n' s' k n s = Y at *
      generalize cmpO k' n' s' k'' n'' s'' = Z at *
      generalize cmpO k n s k'' n'' s'' = U at *
      generalize cmpE k n s k' n' s' = E at *
      generalize cmpE k' n' s' k n s = F at *
      generalize cmpE k' n' s' k'' n'' s'' = G at *
      generalize cmpE k n s k'' n'' s'' = H at *
      go_wp2_with fail
      refine (known_any _).mono ?_
      rintro e w10 ⟨rfl, hx10⟩
      replace hE := hid (Ext.trans hE.out hx10)
      clear hx10
      go_wp2
      go_ret
      exact ⟨rfl, hE.out⟩
end Go.Proofs.YtkjcfnmbnddhjaaDoor
