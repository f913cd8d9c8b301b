/-
  The law of the operations.
-/
import Derived.Test.YtkjcfnmbnddhjaaDoorVc10
namespace Go.Proofs.YtkjcfnmbnddhjaaDoor
open Go.RowKit
set_option linter.unusedVariables false
set_option linter.unusedSimpArgs false
def GiveE (r : Res) (e0 : Int) (w : World) (e : Ending) (w' : World) : Prop := e = .returned (.tuple #[.agg #[.int .i64 r.1, .int .i64 r.2.1, .string r.2.2.1], .int .i64 r.2.2.2, .int .i64 e0]) ∧ Ext w w'
theorem bd_of {k n : Int} {s : ByteArray} (h : valE k n s = 0) : Bd k n s := by
  refine ⟨?_, val_size h⟩
  unfold valE at h
  split at h
  · cases h
  · split at h
    · assumption
    · cases h
theorem bd_two {k n k' n' : Int} {s s' : ByteArray} (h : bothE k n s k' n' s' = 0) : Bd k n s ∧ Bd k' n' s' := by
  unfold bothE at h
  split at h
  · rename_i h1; exact absurd h h1
  · rename_i h1; exact ⟨bd_of (by simpa using h1), bd_of h⟩
theorem does_both (op k n : Int) (s : ByteArray) (k' n' : Int) (s' : ByteArray) : ∃ r e0, (∀ w, Calls Tryd.prog 17 #[.int .i64 op, vV k n s, vV k' n' s'] w (GiveE r e0 w)) ∧ (∀ w, Calls Tryd.prog 18 #[.int .i64 op, vV k n s, vV k' n' s'] w (GiveE r e0 w)) := by
  by_cases hb : bothE k n s k' n' s' = 0
  · obtain ⟨h1, h2⟩ := bd_two hb
    by_cases hr : op < 0 ∨ 5 < op
    · exact ⟨diedR 0, 1, fun w => Do_range op k n s k' n' s' w h1 h2 hr, fun w => rDo_range op k n s k' n' s' w h1 h2 hr⟩
    by_cases hn : k = 0 ∨ k' = 0
    · exact ⟨diedR 0, 0, fun w => Do_nil op k n s k' n' s' w h1 h2 (by omega) hn, fun w => rDo_nil op k n s k' n' s' w h1 h2 (by omega) hn⟩
    have hk : k ≠ 0 := fun h => hn (Or.inl h)
    have hk' : k' ≠ 0 := fun h => hn (Or.inr h)
    have ho : op = 0 ∨ op = 1 ∨ op = 2 ∨ op = 3 ∨ op = 4 ∨ op = 5 := by omega
    rcases ho with rfl | rfl | rfl | rfl | rfl | rfl
    · exact ⟨_, 0, fun w => DoAdd_ok k n s k' n' s' w h1 h2 hk hk', fun w => rDo_0 k n s k' n' s' w h1 h2 hk hk'⟩
    · exact ⟨_, 0, fun w => DoSub_ok k n s k' n' s' w h1 h2 hk hk', fun w => rDo_1 k n s k' n' s' w h1 h2 hk hk'⟩
    · exact ⟨_, 0, fun w => Domul_ok k n s k' n' s' w h1 h2 hk hk', fun w => rDo_2 k n s k' n' s' w h1 h2 hk hk'⟩
    · exact ⟨_, 0, fun w => Dodiv_ok k n s k' n' s' w h1 h2 hk hk', fun w => rDo_3 k n s k' n' s' w h1 h2 hk hk'⟩
    · exact ⟨_, 0, fun w => Domod_ok k n s k' n' s' w h1 h2 hk hk', fun w => rDo_4 k n s k' n' s' w h1 h2 hk hk'⟩
    · exact ⟨_, 0, fun w => Dopow_ok k n s k' n' s' w h1 h2 hk hk', fun w => rDo_5 k n s k' n' s' w h1 h2 hk hk'⟩
  · exact ⟨diedR 0, bothE k n s k' n' s', fun w => Do_err op k n s k' n' s' w hb, fun w => rDo_err op k n s k' n' s' w hb⟩
set_option maxRecDepth 100000 in
set_option maxHeartbeats 4000000 in
theorem does_law (op k n : Int) (s : ByteArray) (k' n' : Int) (s' : ByteArray) (w : World) (_ : (Lit.int .i64 op).wf = true) (_ : (Lit.int .i64 k).wf = true) (_ : (Lit.int .i64 n).wf = true) (hs : s.size ≤ maxLen) (_ : (Lit.int .i64 k').wf = true) (_ : (Lit.int .i64 n').wf = true) (hs' : s'.size ≤ maxLen) : Calls Tryd.prog 3 #[.int .i64 op, vV k n s, vV k' n' s'] w (Give (.bool true) w) := by
  obtain ⟨⟨r1, r2, r3, r4⟩, e0, hc1, hc2⟩ := does_both op k n s k' n' s'
  have hc1 := hid hc1
  have hc2 := hid hc2
  have t1 : (r4 == r4) = true := by simp
  have t2 : (e0 == e0) = true := by simp
  unfold vV
  clear hs hs'
  go_enter Tryd.func3, Tryd.ntmps3
  go_wp2_with fail
  · refine (known_any _).mono ?_
    rintro e w1 ⟨rfl, hx1⟩
    have c0_0_0 : w1.cell? ⟨w.heap.size, 0, none⟩ = some (.int .i64 k) := hx1.cell (by go_simp)
    have c0_0_1 : w1.cell? ⟨w.heap.size, 1, none⟩ = some (.int .i64 n) := hx1.cell (by go_simp)
    have c0_0_2 : w1.cell? ⟨w.heap.size, 2, none⟩ = some (.string s) := hx1.cell (by go_simp)
    have c0_1_0 : w1.cell? ⟨w.heap.size + 1, 0, none⟩ = some (.int .i64 k') := hx1.cell (by go_simp)
    have c0_1_1 : w1.cell? ⟨w.heap.size + 1, 1, none⟩ = some (.int .i64 n') := hx1.cell (by go_simp)
    have c0_1_2 : w1.cell? ⟨w.heap.size + 1, 2, none⟩ = some (.string s') := hx1.cell (by go_simp)
    have hE := hid (Ext.trans (((Ext.refl w).alloc_right _).alloc_right _) hx1)
    have lt_1 : w.heap.size < w1.heap.size := World.block_lt_of_cell? w1 _ c0_0_0
    have lt_2 : w.heap.size + 1 < w1.heap.size := World.block_lt_of_cell? w1 _ c0_1_0
    clear hx1
    go_wp2
    go_ret
    exact ⟨rfl, hE.out⟩
  · refine (hc1.out _).mono ?_
    rintro e w1 ⟨rfl, hx1⟩
    have c0_0_0 : w1.cell? ⟨w.heap.size, 0, none⟩ = some (.int .i64 k) := hx1.cell (by go_simp)
    have c0_0_1 : w1.cell? ⟨w.heap.size, 1, none⟩ = some (.int .i64 n) := hx1.cell (by go_simp)
    have c0_0_2 : w1.cell? ⟨w.heap.size, 2, none⟩ = some (.string s) := hx1.cell (by go_simp)
    have c0_1_0 : w1.cell? ⟨w.heap.size + 1, 0, none⟩ = some (.int .i64 k') := hx1.cell (by go_simp)
    have c0_1_1 : w1.cell? ⟨w.heap.size + 1, 1, none⟩ = some (.int .i64 n') := hx1.cell (by go_simp)
    have c0_1_2 : w1.cell? ⟨w.heap.size + 1, 2, none⟩ = some (.string s') := hx1.cell (by go_simp)
    have hE := hid (Ext.trans (((Ext.refl w).alloc_right _).alloc_right _) hx1)
    have lt_1 : w.heap.size < w1.heap.size := World.block_lt_of_cell? w1 _ c0_0_0
    have lt_2 : w.heap.size + 1 < w1.heap.size := World.block_lt_of_cell? w1 _ c0_1_0
    clear hx1
    go_wp2_with fail
    refine (hc2.out _).mono ?_
    rintro e w2 ⟨rfl, hx2⟩
    replace c0_0_0 := hx2.cell (cell_alloc c0_0_0 _)
    replace c0_0_1 := hx2.cell (cell_alloc c0_0_1 _)
    replace c0_0_2 := hx2.cell (cell_alloc c0_0_2 _)
    replace c0_1_0 := hx2.cell (cell_alloc c0_1_0 _)
    replace c0_1_1 := hx2.cell (cell_alloc c0_1_1 _)
    replace c0_1_2 := hx2.cell (cell_alloc c0_1_2 _)
    have c1_0_0 : w2.cell? ⟨w1.heap.size, 0, none⟩ = some (.int .i64 r1) := hx2.cell (by go_simp)
    have c1_0_1 : w2.cell? ⟨w1.heap.size, 1, none⟩ = some (.int .i64 r2) := hx2.cell (by go_simp)
    have c1_0_2 : w2.cell? ⟨w1.heap.size, 2, none⟩ = some (.string r3) := hx2.cell (by go_simp)
    replace hE := hid (Ext.trans (hE.out.alloc_right _) hx2)
    clear lt_1
    have lt_1 : w.heap.size < w2.heap.size := World.block_lt_of_cell? w2 _ c0_0_0
    clear lt_2
    have lt_2 : w.heap.size + 1 < w2.heap.size := World.block_lt_of_cell? w2 _ c0_1_0
    have lt_3 : w1.heap.size < w2.heap.size := World.block_lt_of_cell? w2 _ c1_0_0
    clear hx2
    go_wp2_with fail
    refine (same_refl r1 r2 r3 _).mono ?_
    rintro e w3 ⟨rfl, hx3⟩
    replace c0_0_0 := hx3.cell (cell_alloc c0_0_0 _)
    replace c0_0_1 := hx3.cell (cell_alloc c0_0_1 _)
    replace c0_0_2 := hx3.cell (cell_alloc c0_0_2 _)
    replace c0_1_0 := hx3.cell (cell_alloc c0_1_0 _)
    replace c0_1_1 := hx3.cell (cell_alloc c0_1_1 _)
    replace c0_1_2 := hx3.cell (cell_alloc c0_1_2 _)
    replace c1_0_0 := hx3.cell (cell_alloc c1_0_0 _)
    replace c1_0_1 := hx3.cell (cell_alloc c1_0_1 _)
    replace c1_0_2 := hx3.cell (cell_alloc c1_0_2 _)
    have c2_0_0 : w3.cell? ⟨w2.heap.size, 0, none⟩ = some (.int .i64 r1) := hx3.cell (by go_simp)
    have c2_0_1 : w3.cell? ⟨w2.heap.size, 1, none⟩ = some (.int .i64 r2) := hx3.cell (by go_simp)
    have c2_0_2 : w3.cell? ⟨w2.heap.size, 2, none⟩ = some (.string r3) := hx3.cell (by go_simp)
    replace hE := hid (Ext.trans (hE.out.alloc_right _) hx3)
    clear lt_1
    have lt_1 : w.heap.size < w3.heap.size := World.block_lt_of_cell? w3 _ c0_0_0
    clear lt_2
    have lt_2 : w.heap.size + 1 < w3.heap.size := World.block_lt_of_cell? w3 _ c0_1_0
    clear lt_3
    have lt_3 : w1.heap.size < w3.heap.size := World.block_lt_of_cell? w3 _ c1_0_0
    have lt_4 : w2.heap.size < w3.heap.size := World.block_lt_of_cell? w3 _ c2_0_0
    clear hx3
    go_wp2_with fail
    refine (known_any _).mono ?_
    rintro e w4 ⟨rfl, hx4⟩
    replace c0_0_0 := hx4.cell c0_0_0
    replace c0_0_1 := hx4.cell c0_0_1
    replace c0_0_2 := hx4.cell c0_0_2
    replace c0_1_0 := hx4.cell c0_1_0
    replace c0_1_1 := hx4.cell c0_1_1
    replace c0_1_2 := hx4.cell c0_1_2
    replace c1_0_0 := hx4.cell c1_0_0
    replace c1_0_1 := hx4.cell c1_0_1
    replace c1_0_2 := hx4.cell c1_0_2
    replace c2_0_0 := hx4.cell c2_0_0
    replace c2_0_1 := hx4.cell c2_0_1
    replace c2_0_2 := hx4.cell c2_0_2
    replace hE := hid (Ext.trans hE.out hx4)
    clear lt_1
    have lt_1 : w.heap.size < w4.heap.size := World.block_lt_of_cell? w4 _ c0_0_0
    clear lt_2
    have lt_2 : w.heap.size + 1 < w4.heap.size := World.block_lt_of_cell? w4 _ c0_1_0
    clear lt_3
    have lt_3 : w1.heap.size < w4.heap.size := World.block_lt_of_cell? w4 _ c1_0_0
    clear lt_4
    have lt_4 : w2.heap.size < w4.heap.size := World.block_lt_of_cell? w4 _ c2_0_0
    clear hx4
    go_wp2
    go_ret
    exact ⟨rfl, hE.out⟩
end Go.Proofs.YtkjcfnmbnddhjaaDoor
