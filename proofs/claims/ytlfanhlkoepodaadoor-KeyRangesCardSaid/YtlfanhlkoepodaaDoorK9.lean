/-
  The law of the keys of values.
-/
import Derived.Test.YtlfanhlkoepodaaDoorK7
namespace Go.Proofs.YtlfanhlkoepodaaDoor
open Go.RowKit
set_option linter.unusedVariables false
set_option linter.unusedSimpArgs false
set_option maxRecDepth 100000 in
set_option maxHeartbeats 4000000 in
theorem encodes_law (k n : Int) (s : ByteArray) (p c x : Int) (w : World) (_ : (Lit.int .i64 k).wf = true) (_ : (Lit.int .i64 n).wf = true) (hs : s.size ≤ maxLen) (_ : (Lit.int .i64 p).wf = true) (_ : (Lit.int .i64 c).wf = true) (_ : (Lit.int .i64 x).wf = true) (hm : ML w) : Calls Tryd.prog 3 #[vV k n s, .agg #[.int .i64 p, .int .i64 c, .int .i64 x]] w (Give (.bool true) w) := by
  clear hs
  replace hm := hid hm
  have c1 := hid (fun w hm => Encode_any k n s p c (x == 1) w hm)
  have c2 := hid (fun w => rEncode_any k n s p c (x == 1) w)
  have co := hid (fun g w H => over_any (fun _ => s) 1 g (by omega) w H)
  generalize encS k n s p c (x == 1) = S at *
  generalize askV k n s p c = E at *
  unfold vV at *
  go_enter Tryd.func3, Tryd.ntmps3
  go_upto_region 1 with fail
  generalize hw_ : (w.alloc (.cells #[.int .i64 k, .int .i64 n, .string s] 23)).alloc (.cells #[.int .i64 p, .int .i64 c, .int .i64 x] 24) = w1
  have hx1 : Ext ((w.alloc (.cells #[.int .i64 k, .int .i64 n, .string s] 23)).alloc (.cells #[.int .i64 p, .int .i64 c, .int .i64 x] 24)) w1 := by rw [hw_]; exact Ext.refl _
  clear hw_
  have b0 : w1.cell? ⟨w.heap.size, 0, none⟩ = some (.int .i64 k) := hx1.cell (by go_simp)
  have b1 : w1.cell? ⟨w.heap.size, 1, none⟩ = some (.int .i64 n) := hx1.cell (by go_simp)
  have b2 : w1.cell? ⟨w.heap.size, 2, none⟩ = some (.string s) := hx1.cell (by go_simp)
  have r0 : w1.cell? ⟨w.heap.size + 1, 0, none⟩ = some (.int .i64 p) := hx1.cell (by go_simp)
  have r1 : w1.cell? ⟨w.heap.size + 1, 1, none⟩ = some (.int .i64 c) := hx1.cell (by go_simp)
  have r2 : w1.cell? ⟨w.heap.size + 1, 2, none⟩ = some (.int .i64 x) := hx1.cell (by go_simp)
  have hE := hid (Ext.trans (((Ext.refl w).alloc_right _).alloc_right _) hx1)
  have lt := World.block_lt_of_cell? w1 _ b0
  have lt2 := World.block_lt_of_cell? w1 _ r0
  clear hx1
  go_wp2_with fail
  refine (co.out _ _ (fun j hj => by obtain rfl : j = 0 := (by omega); go_simp)).mono ?_
  rintro e w' ⟨⟨b, rfl⟩, rfl⟩
  generalize hw_ : w1.alloc (.cells #[.int .i64 k, .int .i64 n, .string s] 23) = w2
  have hx2 : Ext w1 w2 := by rw [← hw_]; exact (Ext.refl _).alloc_right _
  clear hw_
  replace b0 := hx2.cell b0
  replace b1 := hx2.cell b1
  replace b2 := hx2.cell b2
  replace r0 := hx2.cell r0
  replace r1 := hx2.cell r1
  replace r2 := hx2.cell r2
  replace hE := hid (hE.out.trans hx2)
  clear lt lt2
  have lt := World.block_lt_of_cell? w2 _ b0
  have lt2 := World.block_lt_of_cell? w2 _ r0
  clear hx2
  cases b with
  | true =>
    go_wp2_with fail
    refine (known_any _ (hm.out.ext hE.out)).mono ?_
    rintro e w3 ⟨rfl, hx3⟩
    go_wp2
    go_ret
    exact ⟨rfl, hE.out.trans hx3⟩
  | false =>
    go_wp2_with fail
    refine (c1.out _ (hm.out.ext hE.out)).mono ?_
    rintro e w3 ⟨rfl, hx3⟩
    replace b0 := hx3.cell b0
    replace b1 := hx3.cell b1
    replace b2 := hx3.cell b2
    replace r0 := hx3.cell r0
    replace r1 := hx3.cell r1
    replace r2 := hx3.cell r2
    replace hE := hid (hE.out.trans hx3)
    clear lt lt2
    have lt := World.block_lt_of_cell? w3 _ b0
    have lt2 := World.block_lt_of_cell? w3 _ r0
    clear hx3
    go_wp2_with fail
    refine (c2.out _).mono ?_
    rintro e w4 ⟨rfl, hx4⟩
    replace b0 := hx4.cell b0
    replace b1 := hx4.cell b1
    replace b2 := hx4.cell b2
    replace r0 := hx4.cell r0
    replace r1 := hx4.cell r1
    replace r2 := hx4.cell r2
    replace hE := hid (hE.out.trans hx4)
    clear lt lt2
    have lt := World.block_lt_of_cell? w4 _ b0
    have lt2 := World.block_lt_of_cell? w4 _ r0
    clear hx4
    go_wp2_with fail
    refine (known_any _ (hm.out.ext hE.out)).mono ?_
    rintro e w5 ⟨rfl, hx5⟩
    go_wp2
    go_ret
    exact ⟨rfl, hE.out.trans hx5⟩
end Go.Proofs.YtlfanhlkoepodaaDoor
