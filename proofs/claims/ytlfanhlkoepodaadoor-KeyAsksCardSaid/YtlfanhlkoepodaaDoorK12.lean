/-
  The law of what the keys of texts begin with.
-/
import Derived.Test.YtlfanhlkoepodaaDoorK7
import Derived.Test.YtlfanhlkoepodaaDoorK10
namespace Go.Proofs.YtlfanhlkoepodaaDoor
open Go.RowKit
set_option linter.unusedVariables false
set_option linter.unusedSimpArgs false
set_option maxRecDepth 100000 in
set_option maxHeartbeats 4000000 in
theorem prefixes_law (s : ByteArray) (p c x : Int) (w : World) (hs : s.size ≤ 140737488351232) (_ : (Lit.int .i64 p).wf = true) (_ : (Lit.int .i64 c).wf = true) (_ : (Lit.int .i64 x).wf = true) (hm : ML w) : Calls Tryd.prog 6 #[.string s, .agg #[.int .i64 p, .int .i64 c, .int .i64 x]] w (Give (.bool true) w) := by
  replace hm := hid hm
  by_cases hl : 40000 < s.size
  · have d1 : decide ((40000 : Int) < (s.size : Int)) = true := by simp; omega
    clear hl
    go_enter Tryd.func6, Tryd.ntmps6
    go_wp2_with fail
    refine (known_any _ (hm.out.ext ((Ext.refl w).alloc_right _))).mono ?_
    rintro e w1 ⟨rfl, hx⟩
    go_wp2
    go_ret
    exact ⟨rfl, ((Ext.refl w).alloc_right _).trans hx⟩
  have d1 : decide ((40000 : Int) < (s.size : Int)) = false := by simp; omega
  have c1 := hid (fun w hm => Prefix_any s p c (x == 1) w hm)
  have c2 := hid (fun w => rPrefix_any s p c (x == 1) w)
  have c3 := hid (fun w => Behind_any s (by omega) w)
  have c4 := hid (fun w => rBehind_any s (by omega) w)
  generalize prS s p c (x == 1) = S at *
  generalize prE s p c = E at *
  generalize behS s = S2 at *
  generalize behO s = O at *
  clear hl
  go_enter Tryd.func6, Tryd.ntmps6
  go_upto_region 1 with fail
  generalize hw_ : w.alloc (.cells #[.int .i64 p, .int .i64 c, .int .i64 x] 24) = w1
  have hx1 : Ext (w.alloc (.cells #[.int .i64 p, .int .i64 c, .int .i64 x] 24)) w1 := by rw [hw_]; exact Ext.refl _
  clear hw_
  have r0 : w1.cell? ⟨w.heap.size, 0, none⟩ = some (.int .i64 p) := hx1.cell (by go_simp)
  have r1 : w1.cell? ⟨w.heap.size, 1, none⟩ = some (.int .i64 c) := hx1.cell (by go_simp)
  have r2 : w1.cell? ⟨w.heap.size, 2, none⟩ = some (.int .i64 x) := hx1.cell (by go_simp)
  have hE := hid (Ext.trans ((Ext.refl w).alloc_right _) hx1)
  have lt2 := World.block_lt_of_cell? w1 _ r0
  clear hx1
  go_wp2_with fail
  refine (c1.out _ (hm.out.ext hE.out)).mono ?_
  rintro e w2 ⟨rfl, hx2⟩
  replace r0 := hx2.cell r0
  replace r1 := hx2.cell r1
  replace r2 := hx2.cell r2
  replace hE := hid (hE.out.trans hx2)
  clear lt2
  have lt2 := World.block_lt_of_cell? w2 _ r0
  clear hx2
  go_wp2_with fail
  refine (c2.out _).mono ?_
  rintro e w3 ⟨rfl, hx3⟩
  replace r0 := hx3.cell r0
  replace r1 := hx3.cell r1
  replace r2 := hx3.cell r2
  replace hE := hid (hE.out.trans hx3)
  clear lt2
  have lt2 := World.block_lt_of_cell? w3 _ r0
  clear hx3
  go_wp2_with fail
  refine (c3.out _).mono ?_
  rintro e w4 ⟨rfl, hx4⟩
  replace r0 := hx4.cell r0
  replace r1 := hx4.cell r1
  replace r2 := hx4.cell r2
  replace hE := hid (hE.out.trans hx4)
  clear lt2
  have lt2 := World.block_lt_of_cell? w4 _ r0
  clear hx4
  go_wp2_with fail
  refine (c4.out _).mono ?_
  rintro e w5 ⟨rfl, hx5⟩
  replace r0 := hx5.cell r0
  replace r1 := hx5.cell r1
  replace r2 := hx5.cell r2
  replace hE := hid (hE.out.trans hx5)
  clear lt2
  have lt2 := World.block_lt_of_cell? w5 _ r0
  clear hx5
  go_wp2_with fail
  refine (known_any _ (hm.out.ext hE.out)).mono ?_
  rintro e w6 ⟨rfl, hx6⟩
  go_wp2
  go_ret
  exact ⟨rfl, hE.out.trans hx6⟩
end Go.Proofs.YtlfanhlkoepodaaDoor
