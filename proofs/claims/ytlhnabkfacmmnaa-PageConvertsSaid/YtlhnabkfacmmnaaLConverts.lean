/-
  The law of conversions between pages: its walk.
-/
import Derived.Test.YtlhnabkfacmmnaaPg7
import Derived.Test.YtlhnabkfacmmnaaPgP
import Derived.Test.YtlhnabkfacmmnaaLOrders
import Derived.Test.YtlhnabkfacmmnaaPc5
namespace Go.Proofs.Ytlhnabkfacmmnaa
open Go.RowKit
set_option linter.unusedVariables false
set_option linter.unusedSimpArgs false
set_option maxRecDepth 100000 in
set_option maxHeartbeats 4000000 in
theorem converts_law (s : ByteArray) (a b : Int) (c : Int) (w : World) (hs : s.size ≤ maxLen) (ha : (Lit.int .i64 a).wf = true) (hb : (Lit.int .i64 b).wf = true) (hc : (Lit.int .u8 c).wf = true) : Calls Try.prog 9 #[.string s, .agg #[.int .i64 a, .int .i64 b], .int .u8 c] w (Give (.bool true) w) := by
  have hc2 : 0 ≤ c ∧ c ≤ 255 := by
    have := hc
    simp [Lit.wf, IntKind.min, IntKind.max, IntKind.bits, IntKind.signed] at this
    omega
  obtain ⟨c0, c1⟩ := hc2
  clear hc
  rcases Bool.eq_false_or_eq_true (decide (16384 < s.size)) with h1 | h1
  · go_enter Try.func9, Try.ntmps9
    go_wp2_with fail
    refine (over_any _ _).mono ?_
    rintro e w' ⟨rfl, rfl⟩
    go_wp2_with fail
    refine (known_any _).mono ?_
    rintro e w1 ⟨rfl, hx1⟩
    have c0_0_0 : w1.cell? ⟨w.heap.size, 0, none⟩ = some (.int .i64 a) := hx1.cell (by go_simp)
    have c0_0_1 : w1.cell? ⟨w.heap.size, 1, none⟩ = some (.int .i64 b) := hx1.cell (by go_simp)
    have hE := hid (Ext.trans ((Ext.refl w).alloc_right _) hx1)
    have lt_1 : w.heap.size < w1.heap.size := World.block_lt_of_cell? w1 _ c0_0_0
    clear hx1
    go_wp2
    go_ret
    exact ⟨rfl, hE.out⟩
  · go_enter Try.func9, Try.ntmps9
    go_wp2_with fail
    refine (over_any _ _).mono ?_
    rintro e w' ⟨rfl, rfl⟩
    go_wp2_with fail
    refine (Convert_any s a b c _ c0 c1).mono ?_
    rintro e w1 ⟨rfl, hx1⟩
    have c0_0_0 : w1.cell? ⟨w.heap.size, 0, none⟩ = some (.int .i64 a) := hx1.cell (by go_simp)
    have c0_0_1 : w1.cell? ⟨w.heap.size, 1, none⟩ = some (.int .i64 b) := hx1.cell (by go_simp)
    have hE := hid (Ext.trans ((Ext.refl w).alloc_right _) hx1)
    have lt_1 : w.heap.size < w1.heap.size := World.block_lt_of_cell? w1 _ c0_0_0
    clear hx1
    go_wp2_with fail
    refine (rConvert_any s a b c _ c0 c1).mono ?_
    rintro e w2 ⟨rfl, hx2⟩
    replace c0_0_0 := hx2.cell c0_0_0
    replace c0_0_1 := hx2.cell c0_0_1
    replace hE := hid (Ext.trans hE.out hx2)
    clear lt_1
    have lt_1 : w.heap.size < w2.heap.size := World.block_lt_of_cell? w2 _ c0_0_0
    clear hx2
    go_wp2_with fail
    refine (known_any _).mono ?_
    rintro e w3 ⟨rfl, hx3⟩
    replace c0_0_0 := hx3.cell c0_0_0
    replace c0_0_1 := hx3.cell c0_0_1
    replace hE := hid (Ext.trans hE.out hx3)
    clear lt_1
    have lt_1 : w.heap.size < w3.heap.size := World.block_lt_of_cell? w3 _ c0_0_0
    clear hx3
    go_wp2
    go_ret
    exact ⟨rfl, hE.out⟩
end Go.Proofs.Ytlhnabkfacmmnaa
