/-
  The law of the weights and the order of texts: its walk.
-/
import Derived.Test.YtlhnabkfacmmnaaPg7
import Derived.Test.YtlhnabkfacmmnaaPgP
namespace Go.Proofs.Ytlhnabkfacmmnaa
open Go.RowKit
set_option linter.unusedVariables false
set_option linter.unusedSimpArgs false
theorem cell_alloc {w : World} {a : Addr} {v : Value} (h : w.cell? a = some v) (o : Obj) : (w.alloc o).cell? a = some v := (Ext.refl w).alloc_right o |>.cell h
set_option maxRecDepth 100000 in
set_option maxHeartbeats 4000000 in
theorem orders_law (s t : ByteArray) (a b : Int) (w : World) (hs : s.size ≤ maxLen) (ht : t.size ≤ maxLen) (ha : (Lit.int .i64 a).wf = true) (hb : (Lit.int .i64 b).wf = true) : Calls Try.prog 4 #[.string s, .string t, .agg #[.int .i64 a, .int .i64 b]] w (Give (.bool true) w) := by
  rcases Bool.eq_false_or_eq_true (decide (16384 < s.size)) with h1 | h1
  · go_enter Try.func4, Try.ntmps4
    go_wp2_with fail
    refine (over_any _ _).mono ?_
    rintro e w' ⟨rfl, rfl⟩
    go_wp2_with fail
    refine (known_any _).mono ?_
    rintro e w1 ⟨rfl, hx1⟩
    have c0_0_0 : w1.cell? ⟨w.heap.size, 0, none⟩ = some (.int .i64 a) := hx1.cell (by go_simp)
    have c0_0_1 : w1.cell? ⟨w.heap.size, 1, none⟩ = some (.int .i64 b) := hx1.cell (by go_simp)
    have hE := hid (Ext.trans ((Ext.refl w).alloc_right _) hx1)
    have lt_1 : w.heap.size < w1.heap.size := World.block_lt_of_cell? w1 _ c0_0_0
    clear hx1
    go_wp2
    go_ret
    exact ⟨rfl, hE.out⟩
  · rcases Bool.eq_false_or_eq_true (decide (16384 < t.size)) with h2 | h2
    · go_enter Try.func4, Try.ntmps4
      go_wp2_with fail
      refine (over_any _ _).mono ?_
      rintro e w' ⟨rfl, rfl⟩
      go_wp2_with fail
      refine (over_any _ _).mono ?_
      rintro e w' ⟨rfl, rfl⟩
      go_wp2_with fail
      refine (known_any _).mono ?_
      rintro e w1 ⟨rfl, hx1⟩
      have c0_0_0 : w1.cell? ⟨w.heap.size, 0, none⟩ = some (.int .i64 a) := hx1.cell (by go_simp)
      have c0_0_1 : w1.cell? ⟨w.heap.size, 1, none⟩ = some (.int .i64 b) := hx1.cell (by go_simp)
      have hE := hid (Ext.trans ((Ext.refl w).alloc_right _) hx1)
      have lt_1 : w.heap.size < w1.heap.size := World.block_lt_of_cell? w1 _ c0_0_0
      clear hx1
      go_wp2
      go_ret
      exact ⟨rfl, hE.out⟩
    · go_enter Try.func4, Try.ntmps4
      go_wp2_with fail
      refine (over_any _ _).mono ?_
      rintro e w' ⟨rfl, rfl⟩
      go_wp2_with fail
      refine (over_any _ _).mono ?_
      rintro e w' ⟨rfl, rfl⟩
      go_wp2_with fail
      refine (Weights_any s a b _).mono ?_
      rintro e w1 ⟨rfl, hx1⟩
      have c0_0_0 : w1.cell? ⟨w.heap.size, 0, none⟩ = some (.int .i64 a) := hx1.cell (by go_simp)
      have c0_0_1 : w1.cell? ⟨w.heap.size, 1, none⟩ = some (.int .i64 b) := hx1.cell (by go_simp)
      have hE := hid (Ext.trans ((Ext.refl w).alloc_right _) hx1)
      have lt_1 : w.heap.size < w1.heap.size := World.block_lt_of_cell? w1 _ c0_0_0
      clear hx1
      go_wp2_with fail
      refine (rWeights_any s a b _).mono ?_
      rintro e w2 ⟨rfl, hx2⟩
      replace c0_0_0 := hx2.cell c0_0_0
      replace c0_0_1 := hx2.cell c0_0_1
      replace hE := hid (Ext.trans hE.out hx2)
      clear lt_1
      have lt_1 : w.heap.size < w2.heap.size := World.block_lt_of_cell? w2 _ c0_0_0
      clear hx2
      go_wp2_with fail
      refine (Order_any s t a b _).mono ?_
      rintro e w3 ⟨rfl, hx3⟩
      replace c0_0_0 := hx3.cell c0_0_0
      replace c0_0_1 := hx3.cell c0_0_1
      replace hE := hid (Ext.trans hE.out hx3)
      clear lt_1
      have lt_1 : w.heap.size < w3.heap.size := World.block_lt_of_cell? w3 _ c0_0_0
      clear hx3
      go_wp2_with fail
      refine (rOrder_any s t a b _).mono ?_
      rintro e w4 ⟨rfl, hx4⟩
      replace c0_0_0 := hx4.cell c0_0_0
      replace c0_0_1 := hx4.cell c0_0_1
      replace hE := hid (Ext.trans hE.out hx4)
      clear lt_1
      have lt_1 : w.heap.size < w4.heap.size := World.block_lt_of_cell? w4 _ c0_0_0
      clear hx4
      go_wp2_with fail
      refine (known_any _).mono ?_
      rintro e w5 ⟨rfl, hx5⟩
      replace c0_0_0 := hx5.cell c0_0_0
      replace c0_0_1 := hx5.cell c0_0_1
      replace hE := hid (Ext.trans hE.out hx5)
      clear lt_1
      have lt_1 : w.heap.size < w5.heap.size := World.block_lt_of_cell? w5 _ c0_0_0
      clear hx5
      go_wp2
      go_ret
      exact ⟨rfl, hE.out⟩
end Go.Proofs.Ytlhnabkfacmmnaa
