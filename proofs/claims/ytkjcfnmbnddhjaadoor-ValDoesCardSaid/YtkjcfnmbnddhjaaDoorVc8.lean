/-
  The reference's operations of dates and texts.
-/
import Derived.Test.YtkjcfnmbnddhjaaDoorVc7
import Derived.Deep.RegionHeld3
namespace Go.Proofs.YtkjcfnmbnddhjaaDoor
open Go.RowKit
set_option linter.unusedVariables false
set_option linter.unusedSimpArgs false
set_option maxRecDepth 100000 in
set_option maxHeartbeats 2000000 in
theorem others_add32 (n : Int) (s : ByteArray) (n' : Int) (s' : ByteArray) (w : World) (h1 : Bd 3 n s) (h2 : Bd 2 n' s') : Calls Tryd.prog 110 #[.int .i64 0, vV 3 n s, vV 2 n' s'] w (GiveP (dayR n n') w) := by
  unfold vV
  have b1 := h1.day
  have b2 := h2.num
  go_enter Tryd.func110, Tryd.ntmps110
  go_upto_region 1 with fail
  generalize hw_ : (((w.alloc (.cells #[.int .i64 3, .int .i64 n, .string s] 23)).alloc (.cells #[.int .i64 2, .int .i64 n', .string s'] 23)).alloc (.cells #[.int .i64 0, .int .i64 0, .string { data := #[] }] 23)) = w1
  have hx1 : Ext (((w.alloc (.cells #[.int .i64 3, .int .i64 n, .string s] 23)).alloc (.cells #[.int .i64 2, .int .i64 n', .string s'] 23)).alloc (.cells #[.int .i64 0, .int .i64 0, .string { data := #[] }] 23)) w1 := by rw [hw_]; exact Ext.refl _
  clear hw_
  have t := hid (There.ext (There.newb ((w.alloc (.cells #[.int .i64 3, .int .i64 n, .string s] 23)).alloc (.cells #[.int .i64 2, .int .i64 n', .string s'] 23)) #[.int .i64 0, .int .i64 0, .string { data := #[] }] 23 (n := 3) (b := w.heap.size + 1 + 1) (by simp) (by decide)) hx1)
  have c0_0_0 : w1.cell? ⟨w.heap.size, 0, none⟩ = some (.int .i64 3) := hx1.cell (by go_simp)
  have c0_0_1 : w1.cell? ⟨w.heap.size, 1, none⟩ = some (.int .i64 n) := hx1.cell (by go_simp)
  have c0_0_2 : w1.cell? ⟨w.heap.size, 2, none⟩ = some (.string s) := hx1.cell (by go_simp)
  have c0_1_0 : w1.cell? ⟨w.heap.size + 1, 0, none⟩ = some (.int .i64 2) := hx1.cell (by go_simp)
  have c0_1_1 : w1.cell? ⟨w.heap.size + 1, 1, none⟩ = some (.int .i64 n') := hx1.cell (by go_simp)
  have c0_1_2 : w1.cell? ⟨w.heap.size + 1, 2, none⟩ = some (.string s') := hx1.cell (by go_simp)
  have c0_2_0 : w1.cell? ⟨w.heap.size + 1 + 1, 0, none⟩ = some (.int .i64 0) := hx1.cell (by go_simp)
  have c0_2_1 : w1.cell? ⟨w.heap.size + 1 + 1, 1, none⟩ = some (.int .i64 0) := hx1.cell (by go_simp)
  have c0_2_2 : w1.cell? ⟨w.heap.size + 1 + 1, 2, none⟩ = some (.string { data := #[] }) := hx1.cell (by go_simp)
  have hE := hid (Ext.trans ((((Ext.refl w).alloc_right _).alloc_right _).alloc_right _) hx1)
  have lt_1 : w.heap.size < w1.heap.size := World.block_lt_of_cell? w1 _ c0_0_0
  have lt_2 : w.heap.size + 1 < w1.heap.size := World.block_lt_of_cell? w1 _ c0_1_0
  have lt_3 : w.heap.size + 1 + 1 < w1.heap.size := World.block_lt_of_cell? w1 _ c0_2_0
  clear hx1
  go_wp2_with fail
  refine (moved_any n n' _ (by omega) (by omega)).mono ?_
  rintro e w2 ⟨rfl, hx2⟩
  replace t := hid (There.ext t.out hx2)
  replace c0_0_0 := hx2.cell c0_0_0
  replace c0_0_1 := hx2.cell c0_0_1
  replace c0_0_2 := hx2.cell c0_0_2
  replace c0_1_0 := hx2.cell c0_1_0
  replace c0_1_1 := hx2.cell c0_1_1
  replace c0_1_2 := hx2.cell c0_1_2
  replace c0_2_0 := hx2.cell c0_2_0
  replace c0_2_1 := hx2.cell c0_2_1
  replace c0_2_2 := hx2.cell c0_2_2
  replace hE := hid (Ext.trans hE.out hx2)
  clear lt_1
  have lt_1 : w.heap.size < w2.heap.size := World.block_lt_of_cell? w2 _ c0_0_0
  clear lt_2
  have lt_2 : w.heap.size + 1 < w2.heap.size := World.block_lt_of_cell? w2 _ c0_1_0
  clear lt_3
  have lt_3 : w.heap.size + 1 + 1 < w2.heap.size := World.block_lt_of_cell? w2 _ c0_2_0
  clear hx2
  have p0 := t.out.cell (o := 0) (by omega)
  have f0 := t.out.free (o := 0) (by omega)
  have p1 := t.out.cell (o := 1) (by omega)
  have f1 := t.out.free (o := 1) (by omega)
  have p2 := t.out.cell (o := 2) (by omega)
  have f2 := t.out.free (o := 2) (by omega)
  have kk := hid (put3 t.out (.int .i64 (dayR n n').1) (.int .i64 (dayR n n').2.1) (.string (dayR n n').2.2.1))
  have Fin := hid (((hE.out.set (p := ⟨w.heap.size + 1 + 1, 0, none⟩) (show w.heap.size ≤ w.heap.size + 1 + 1 by omega) (.int .i64 (dayR n n').1)).set (p := ⟨w.heap.size + 1 + 1, 1, none⟩) (show w.heap.size ≤ w.heap.size + 1 + 1 by omega) (.int .i64 (dayR n n').2.1)).set (p := ⟨w.heap.size + 1 + 1, 2, none⟩) (show w.heap.size ≤ w.heap.size + 1 + 1 by omega) (.string (dayR n n').2.2.1))
  clear t
  clear c0_2_0 c0_2_1 c0_2_2
  go_wp2
  obtain ⟨k0, k1, k2⟩ := kk.out
  exact bodyPost_ret (v := .tuple #[.agg #[.int .i64 (dayR n n').1, .int .i64 (dayR n n').2.1, .string (dayR n n').2.2.1], .int .i64 (dayR n n').2.2.2]) (by simp [results, Tryd.results110, go_sem, k0, k1, k2]) rfl ⟨rfl, Fin.out⟩
set_option maxRecDepth 100000 in
set_option maxHeartbeats 2000000 in
theorem others_add23 (n : Int) (s : ByteArray) (n' : Int) (s' : ByteArray) (w : World) (h1 : Bd 2 n s) (h2 : Bd 3 n' s') : Calls Tryd.prog 110 #[.int .i64 0, vV 2 n s, vV 3 n' s'] w (GiveP (dayR n' n) w) := by
  unfold vV
  have b1 := h1.num
  have b2 := h2.day
  go_enter Tryd.func110, Tryd.ntmps110
  go_upto_region 1 with fail
  generalize hw_ : (((w.alloc (.cells #[.int .i64 2, .int .i64 n, .string s] 23)).alloc (.cells #[.int .i64 3, .int .i64 n', .string s'] 23)).alloc (.cells #[.int .i64 0, .int .i64 0, .string { data := #[] }] 23)) = w1
  have hx1 : Ext (((w.alloc (.cells #[.int .i64 2, .int .i64 n, .string s] 23)).alloc (.cells #[.int .i64 3, .int .i64 n', .string s'] 23)).alloc (.cells #[.int .i64 0, .int .i64 0, .string { data := #[] }] 23)) w1 := by rw [hw_]; exact Ext.refl _
  clear hw_
  have t := hid (There.ext (There.newb ((w.alloc (.cells #[.int .i64 2, .int .i64 n, .string s] 23)).alloc (.cells #[.int .i64 3, .int .i64 n', .string s'] 23)) #[.int .i64 0, .int .i64 0, .string { data := #[] }] 23 (n := 3) (b := w.heap.size + 1 + 1) (by simp) (by decide)) hx1)
  have c0_0_0 : w1.cell? ⟨w.heap.size, 0, none⟩ = some (.int .i64 2) := hx1.cell (by go_simp)
  have c0_0_1 : w1.cell? ⟨w.heap.size, 1, none⟩ = some (.int .i64 n) := hx1.cell (by go_simp)
  have c0_0_2 : w1.cell? ⟨w.heap.size, 2, none⟩ = some (.string s) := hx1.cell (by go_simp)
  have c0_1_0 : w1.cell? ⟨w.heap.size + 1, 0, none⟩ = some (.int .i64 3) := hx1.cell (by go_simp)
  have c0_1_1 : w1.cell? ⟨w.heap.size + 1, 1, none⟩ = some (.int .i64 n') := hx1.cell (by go_simp)
  have c0_1_2 : w1.cell? ⟨w.heap.size + 1, 2, none⟩ = some (.string s') := hx1.cell (by go_simp)
  have c0_2_0 : w1.cell? ⟨w.heap.size + 1 + 1, 0, none⟩ = some (.int .i64 0) := hx1.cell (by go_simp)
  have c0_2_1 : w1.cell? ⟨w.heap.size + 1 + 1, 1, none⟩ = some (.int .i64 0) := hx1.cell (by go_simp)
  have c0_2_2 : w1.cell? ⟨w.heap.size + 1 + 1, 2, none⟩ = some (.string { data := #[] }) := hx1.cell (by go_simp)
  have hE := hid (Ext.trans ((((Ext.refl w).alloc_right _).alloc_right _).alloc_right _) hx1)
  have lt_1 : w.heap.size < w1.heap.size := World.block_lt_of_cell? w1 _ c0_0_0
  have lt_2 : w.heap.size + 1 < w1.heap.size := World.block_lt_of_cell? w1 _ c0_1_0
  have lt_3 : w.heap.size + 1 + 1 < w1.heap.size := World.block_lt_of_cell? w1 _ c0_2_0
  clear hx1
  go_wp2_with fail
  refine (moved_any n' n _ (by omega) (by omega)).mono ?_
  rintro e w2 ⟨rfl, hx2⟩
  replace t := hid (There.ext t.out hx2)
  replace c0_0_0 := hx2.cell c0_0_0
  replace c0_0_1 := hx2.cell c0_0_1
  replace c0_0_2 := hx2.cell c0_0_2
  replace c0_1_0 := hx2.cell c0_1_0
  replace c0_1_1 := hx2.cell c0_1_1
  replace c0_1_2 := hx2.cell c0_1_2
  replace c0_2_0 := hx2.cell c0_2_0
  replace c0_2_1 := hx2.cell c0_2_1
  replace c0_2_2 := hx2.cell c0_2_2
  replace hE := hid (Ext.trans hE.out hx2)
  clear lt_1
  have lt_1 : w.heap.size < w2.heap.size := World.block_lt_of_cell? w2 _ c0_0_0
  clear lt_2
  have lt_2 : w.heap.size + 1 < w2.heap.size := World.block_lt_of_cell? w2 _ c0_1_0
  clear lt_3
  have lt_3 : w.heap.size + 1 + 1 < w2.heap.size := World.block_lt_of_cell? w2 _ c0_2_0
  clear hx2
  have p0 := t.out.cell (o := 0) (by omega)
  have f0 := t.out.free (o := 0) (by omega)
  have p1 := t.out.cell (o := 1) (by omega)
  have f1 := t.out.free (o := 1) (by omega)
  have p2 := t.out.cell (o := 2) (by omega)
  have f2 := t.out.free (o := 2) (by omega)
  have kk := hid (put3 t.out (.int .i64 (dayR n' n).1) (.int .i64 (dayR n' n).2.1) (.string (dayR n' n).2.2.1))
  have Fin := hid (((hE.out.set (p := ⟨w.heap.size + 1 + 1, 0, none⟩) (show w.heap.size ≤ w.heap.size + 1 + 1 by omega) (.int .i64 (dayR n' n).1)).set (p := ⟨w.heap.size + 1 + 1, 1, none⟩) (show w.heap.size ≤ w.heap.size + 1 + 1 by omega) (.int .i64 (dayR n' n).2.1)).set (p := ⟨w.heap.size + 1 + 1, 2, none⟩) (show w.heap.size ≤ w.heap.size + 1 + 1 by omega) (.string (dayR n' n).2.2.1))
  clear t
  clear c0_2_0 c0_2_1 c0_2_2
  go_wp2
  obtain ⟨k0, k1, k2⟩ := kk.out
  exact bodyPost_ret (v := .tuple #[.agg #[.int .i64 (dayR n' n).1, .int .i64 (dayR n' n).2.1, .string (dayR n' n).2.2.1], .int .i64 (dayR n' n).2.2.2]) (by simp [results, Tryd.results110, go_sem, k0, k1, k2]) rfl ⟨rfl, Fin.out⟩
set_option maxRecDepth 100000 in
set_option maxHeartbeats 2000000 in
theorem others_add44 (n : Int) (s : ByteArray) (n' : Int) (s' : ByteArray) (w : World) (h1 : Bd 4 n s) (h2 : Bd 4 n' s') : Calls Tryd.prog 110 #[.int .i64 0, vV 4 n s, vV 4 n' s'] w (GiveP (textR (s ++ s')) w) := by
  unfold vV
  have b1 := h1.2
  have b2 := h2.2
  have hsum : ¬ (s.size + s'.size > 9223372036854775807) := by omega
  go_enter Tryd.func110, Tryd.ntmps110
  go_upto_region 1 with fail
  generalize hw_ : (((w.alloc (.cells #[.int .i64 4, .int .i64 n, .string s] 23)).alloc (.cells #[.int .i64 4, .int .i64 n', .string s'] 23)).alloc (.cells #[.int .i64 0, .int .i64 0, .string { data := #[] }] 23)) = w1
  have hx1 : Ext (((w.alloc (.cells #[.int .i64 4, .int .i64 n, .string s] 23)).alloc (.cells #[.int .i64 4, .int .i64 n', .string s'] 23)).alloc (.cells #[.int .i64 0, .int .i64 0, .string { data := #[] }] 23)) w1 := by rw [hw_]; exact Ext.refl _
  clear hw_
  have t := hid (There.ext (There.newb ((w.alloc (.cells #[.int .i64 4, .int .i64 n, .string s] 23)).alloc (.cells #[.int .i64 4, .int .i64 n', .string s'] 23)) #[.int .i64 0, .int .i64 0, .string { data := #[] }] 23 (n := 3) (b := w.heap.size + 1 + 1) (by simp) (by decide)) hx1)
  have c0_0_0 : w1.cell? ⟨w.heap.size, 0, none⟩ = some (.int .i64 4) := hx1.cell (by go_simp)
  have c0_0_1 : w1.cell? ⟨w.heap.size, 1, none⟩ = some (.int .i64 n) := hx1.cell (by go_simp)
  have c0_0_2 : w1.cell? ⟨w.heap.size, 2, none⟩ = some (.string s) := hx1.cell (by go_simp)
  have c0_1_0 : w1.cell? ⟨w.heap.size + 1, 0, none⟩ = some (.int .i64 4) := hx1.cell (by go_simp)
  have c0_1_1 : w1.cell? ⟨w.heap.size + 1, 1, none⟩ = some (.int .i64 n') := hx1.cell (by go_simp)
  have c0_1_2 : w1.cell? ⟨w.heap.size + 1, 2, none⟩ = some (.string s') := hx1.cell (by go_simp)
  have c0_2_0 : w1.cell? ⟨w.heap.size + 1 + 1, 0, none⟩ = some (.int .i64 0) := hx1.cell (by go_simp)
  have c0_2_1 : w1.cell? ⟨w.heap.size + 1 + 1, 1, none⟩ = some (.int .i64 0) := hx1.cell (by go_simp)
  have c0_2_2 : w1.cell? ⟨w.heap.size + 1 + 1, 2, none⟩ = some (.string { data := #[] }) := hx1.cell (by go_simp)
  have hE := hid (Ext.trans ((((Ext.refl w).alloc_right _).alloc_right _).alloc_right _) hx1)
  have lt_1 : w.heap.size < w1.heap.size := World.block_lt_of_cell? w1 _ c0_0_0
  have lt_2 : w.heap.size + 1 < w1.heap.size := World.block_lt_of_cell? w1 _ c0_1_0
  have lt_3 : w.heap.size + 1 + 1 < w1.heap.size := World.block_lt_of_cell? w1 _ c0_2_0
  clear hx1
  go_wp2_with fail
  refine (rtext_any (s ++ s') _).mono ?_
  rintro e w2 ⟨rfl, hx2⟩
  replace t := hid (There.ext t.out hx2)
  replace c0_0_0 := hx2.cell c0_0_0
  replace c0_0_1 := hx2.cell c0_0_1
  replace c0_0_2 := hx2.cell c0_0_2
  replace c0_1_0 := hx2.cell c0_1_0
  replace c0_1_1 := hx2.cell c0_1_1
  replace c0_1_2 := hx2.cell c0_1_2
  replace c0_2_0 := hx2.cell c0_2_0
  replace c0_2_1 := hx2.cell c0_2_1
  replace c0_2_2 := hx2.cell c0_2_2
  replace hE := hid (Ext.trans hE.out hx2)
  clear lt_1
  have lt_1 : w.heap.size < w2.heap.size := World.block_lt_of_cell? w2 _ c0_0_0
  clear lt_2
  have lt_2 : w.heap.size + 1 < w2.heap.size := World.block_lt_of_cell? w2 _ c0_1_0
  clear lt_3
  have lt_3 : w.heap.size + 1 + 1 < w2.heap.size := World.block_lt_of_cell? w2 _ c0_2_0
  clear hx2
  have p0 := t.out.cell (o := 0) (by omega)
  have f0 := t.out.free (o := 0) (by omega)
  have p1 := t.out.cell (o := 1) (by omega)
  have f1 := t.out.free (o := 1) (by omega)
  have p2 := t.out.cell (o := 2) (by omega)
  have f2 := t.out.free (o := 2) (by omega)
  have kk := hid (put3 t.out (.int .i64 (textR (s ++ s')).1) (.int .i64 (textR (s ++ s')).2.1) (.string (textR (s ++ s')).2.2.1))
  have Fin := hid (((hE.out.set (p := ⟨w.heap.size + 1 + 1, 0, none⟩) (show w.heap.size ≤ w.heap.size + 1 + 1 by omega) (.int .i64 (textR (s ++ s')).1)).set (p := ⟨w.heap.size + 1 + 1, 1, none⟩) (show w.heap.size ≤ w.heap.size + 1 + 1 by omega) (.int .i64 (textR (s ++ s')).2.1)).set (p := ⟨w.heap.size + 1 + 1, 2, none⟩) (show w.heap.size ≤ w.heap.size + 1 + 1 by omega) (.string (textR (s ++ s')).2.2.1))
  clear t
  clear c0_2_0 c0_2_1 c0_2_2
  go_wp2
  obtain ⟨k0, k1, k2⟩ := kk.out
  exact bodyPost_ret (v := .tuple #[.agg #[.int .i64 (textR (s ++ s')).1, .int .i64 (textR (s ++ s')).2.1, .string (textR (s ++ s')).2.2.1], .int .i64 (textR (s ++ s')).2.2.2]) (by simp [results, Tryd.results110, go_sem, k0, k1, k2]) rfl ⟨rfl, Fin.out⟩
set_option maxRecDepth 100000 in
set_option maxHeartbeats 2000000 in
theorem others_sub32 (n : Int) (s : ByteArray) (n' : Int) (s' : ByteArray) (w : World) (h1 : Bd 3 n s) (h2 : Bd 2 n' s') : Calls Tryd.prog 110 #[.int .i64 1, vV 3 n s, vV 2 n' s'] w (GiveP (dayR n (-n')) w) := by
  unfold vV
  have b1 := h1.day
  have b2 := h2.num
  have ew : IntKind.i64.wrap (-n') = -n' := IntWalk.i64_in _ (by omega)
  go_enter Tryd.func110, Tryd.ntmps110
  go_upto_region 1 with fail
  generalize hw_ : (((w.alloc (.cells #[.int .i64 3, .int .i64 n, .string s] 23)).alloc (.cells #[.int .i64 2, .int .i64 n', .string s'] 23)).alloc (.cells #[.int .i64 0, .int .i64 0, .string { data := #[] }] 23)) = w1
  have hx1 : Ext (((w.alloc (.cells #[.int .i64 3, .int .i64 n, .string s] 23)).alloc (.cells #[.int .i64 2, .int .i64 n', .string s'] 23)).alloc (.cells #[.int .i64 0, .int .i64 0, .string { data := #[] }] 23)) w1 := by rw [hw_]; exact Ext.refl _
  clear hw_
  have t := hid (There.ext (There.newb ((w.alloc (.cells #[.int .i64 3, .int .i64 n, .string s] 23)).alloc (.cells #[.int .i64 2, .int .i64 n', .string s'] 23)) #[.int .i64 0, .int .i64 0, .string { data := #[] }] 23 (n := 3) (b := w.heap.size + 1 + 1) (by simp) (by decide)) hx1)
  have c0_0_0 : w1.cell? ⟨w.heap.size, 0, none⟩ = some (.int .i64 3) := hx1.cell (by go_simp)
  have c0_0_1 : w1.cell? ⟨w.heap.size, 1, none⟩ = some (.int .i64 n) := hx1.cell (by go_simp)
  have c0_0_2 : w1.cell? ⟨w.heap.size, 2, none⟩ = some (.string s) := hx1.cell (by go_simp)
  have c0_1_0 : w1.cell? ⟨w.heap.size + 1, 0, none⟩ = some (.int .i64 2) := hx1.cell (by go_simp)
  have c0_1_1 : w1.cell? ⟨w.heap.size + 1, 1, none⟩ = some (.int .i64 n') := hx1.cell (by go_simp)
  have c0_1_2 : w1.cell? ⟨w.heap.size + 1, 2, none⟩ = some (.string s') := hx1.cell (by go_simp)
  have c0_2_0 : w1.cell? ⟨w.heap.size + 1 + 1, 0, none⟩ = some (.int .i64 0) := hx1.cell (by go_simp)
  have c0_2_1 : w1.cell? ⟨w.heap.size + 1 + 1, 1, none⟩ = some (.int .i64 0) := hx1.cell (by go_simp)
  have c0_2_2 : w1.cell? ⟨w.heap.size + 1 + 1, 2, none⟩ = some (.string { data := #[] }) := hx1.cell (by go_simp)
  have hE := hid (Ext.trans ((((Ext.refl w).alloc_right _).alloc_right _).alloc_right _) hx1)
  have lt_1 : w.heap.size < w1.heap.size := World.block_lt_of_cell? w1 _ c0_0_0
  have lt_2 : w.heap.size + 1 < w1.heap.size := World.block_lt_of_cell? w1 _ c0_1_0
  have lt_3 : w.heap.size + 1 + 1 < w1.heap.size := World.block_lt_of_cell? w1 _ c0_2_0
  clear hx1
  go_wp2_with fail
  refine (moved_any n (-n') _ (by omega) (by omega)).mono ?_
  rintro e w2 ⟨rfl, hx2⟩
  replace t := hid (There.ext t.out hx2)
  replace c0_0_0 := hx2.cell c0_0_0
  replace c0_0_1 := hx2.cell c0_0_1
  replace c0_0_2 := hx2.cell c0_0_2
  replace c0_1_0 := hx2.cell c0_1_0
  replace c0_1_1 := hx2.cell c0_1_1
  replace c0_1_2 := hx2.cell c0_1_2
  replace c0_2_0 := hx2.cell c0_2_0
  replace c0_2_1 := hx2.cell c0_2_1
  replace c0_2_2 := hx2.cell c0_2_2
  replace hE := hid (Ext.trans hE.out hx2)
  clear lt_1
  have lt_1 : w.heap.size < w2.heap.size := World.block_lt_of_cell? w2 _ c0_0_0
  clear lt_2
  have lt_2 : w.heap.size + 1 < w2.heap.size := World.block_lt_of_cell? w2 _ c0_1_0
  clear lt_3
  have lt_3 : w.heap.size + 1 + 1 < w2.heap.size := World.block_lt_of_cell? w2 _ c0_2_0
  clear hx2
  have p0 := t.out.cell (o := 0) (by omega)
  have f0 := t.out.free (o := 0) (by omega)
  have p1 := t.out.cell (o := 1) (by omega)
  have f1 := t.out.free (o := 1) (by omega)
  have p2 := t.out.cell (o := 2) (by omega)
  have f2 := t.out.free (o := 2) (by omega)
  have kk := hid (put3 t.out (.int .i64 (dayR n (-n')).1) (.int .i64 (dayR n (-n')).2.1) (.string (dayR n (-n')).2.2.1))
  have Fin := hid (((hE.out.set (p := ⟨w.heap.size + 1 + 1, 0, none⟩) (show w.heap.size ≤ w.heap.size + 1 + 1 by omega) (.int .i64 (dayR n (-n')).1)).set (p := ⟨w.heap.size + 1 + 1, 1, none⟩) (show w.heap.size ≤ w.heap.size + 1 + 1 by omega) (.int .i64 (dayR n (-n')).2.1)).set (p := ⟨w.heap.size + 1 + 1, 2, none⟩) (show w.heap.size ≤ w.heap.size + 1 + 1 by omega) (.string (dayR n (-n')).2.2.1))
  clear t
  clear c0_2_0 c0_2_1 c0_2_2
  go_wp2
  obtain ⟨k0, k1, k2⟩ := kk.out
  exact bodyPost_ret (v := .tuple #[.agg #[.int .i64 (dayR n (-n')).1, .int .i64 (dayR n (-n')).2.1, .string (dayR n (-n')).2.2.1], .int .i64 (dayR n (-n')).2.2.2]) (by simp [results, Tryd.results110, go_sem, k0, k1, k2]) rfl ⟨rfl, Fin.out⟩
set_option maxRecDepth 100000 in
set_option maxHeartbeats 2000000 in
theorem others_sub33 (n : Int) (s : ByteArray) (n' : Int) (s' : ByteArray) (w : World) (h1 : Bd 3 n s) (h2 : Bd 3 n' s') : Calls Tryd.prog 110 #[.int .i64 1, vV 3 n s, vV 3 n' s'] w (GiveP (numR (if n = 0 ∨ n' = 0 then 0 else n - n')) w) := by
  unfold vV
  have b1 := h1.day
  have b2 := h2.day
  by_cases z1 : n = 0
  · rw [if_pos (Or.inl z1), num_t (by decide)]
    have d1 : (n == 0) = true := by simpa using z1
    clear z1
    go_enter Tryd.func110, Tryd.ntmps110
    go_upto_region 1 with fail
    generalize hw_ : (((w.alloc (.cells #[.int .i64 3, .int .i64 n, .string s] 23)).alloc (.cells #[.int .i64 3, .int .i64 n', .string s'] 23)).alloc (.cells #[.int .i64 0, .int .i64 0, .string { data := #[] }] 23)) = w1
    have hx1 : Ext (((w.alloc (.cells #[.int .i64 3, .int .i64 n, .string s] 23)).alloc (.cells #[.int .i64 3, .int .i64 n', .string s'] 23)).alloc (.cells #[.int .i64 0, .int .i64 0, .string { data := #[] }] 23)) w1 := by rw [hw_]; exact Ext.refl _
    clear hw_
    have t := hid (There.ext (There.newb ((w.alloc (.cells #[.int .i64 3, .int .i64 n, .string s] 23)).alloc (.cells #[.int .i64 3, .int .i64 n', .string s'] 23)) #[.int .i64 0, .int .i64 0, .string { data := #[] }] 23 (n := 3) (b := w.heap.size + 1 + 1) (by simp) (by decide)) hx1)
    have c0_0_0 : w1.cell? ⟨w.heap.size, 0, none⟩ = some (.int .i64 3) := hx1.cell (by go_simp)
    have c0_0_1 : w1.cell? ⟨w.heap.size, 1, none⟩ = some (.int .i64 n) := hx1.cell (by go_simp)
    have c0_0_2 : w1.cell? ⟨w.heap.size, 2, none⟩ = some (.string s) := hx1.cell (by go_simp)
    have c0_1_0 : w1.cell? ⟨w.heap.size + 1, 0, none⟩ = some (.int .i64 3) := hx1.cell (by go_simp)
    have c0_1_1 : w1.cell? ⟨w.heap.size + 1, 1, none⟩ = some (.int .i64 n') := hx1.cell (by go_simp)
    have c0_1_2 : w1.cell? ⟨w.heap.size + 1, 2, none⟩ = some (.string s') := hx1.cell (by go_simp)
    have c0_2_0 : w1.cell? ⟨w.heap.size + 1 + 1, 0, none⟩ = some (.int .i64 0) := hx1.cell (by go_simp)
    have c0_2_1 : w1.cell? ⟨w.heap.size + 1 + 1, 1, none⟩ = some (.int .i64 0) := hx1.cell (by go_simp)
    have c0_2_2 : w1.cell? ⟨w.heap.size + 1 + 1, 2, none⟩ = some (.string { data := #[] }) := hx1.cell (by go_simp)
    have hE := hid (Ext.trans ((((Ext.refl w).alloc_right _).alloc_right _).alloc_right _) hx1)
    have lt_1 : w.heap.size < w1.heap.size := World.block_lt_of_cell? w1 _ c0_0_0
    have lt_2 : w.heap.size + 1 < w1.heap.size := World.block_lt_of_cell? w1 _ c0_1_0
    have lt_3 : w.heap.size + 1 + 1 < w1.heap.size := World.block_lt_of_cell? w1 _ c0_2_0
    clear hx1
    go_wp2_with fail
    refine (Num_any 0 _).mono ?_
    rintro e w2 ⟨rfl, hx2⟩
    replace t := hid (There.ext t.out hx2)
    replace c0_0_0 := hx2.cell c0_0_0
    replace c0_0_1 := hx2.cell c0_0_1
    replace c0_0_2 := hx2.cell c0_0_2
    replace c0_1_0 := hx2.cell c0_1_0
    replace c0_1_1 := hx2.cell c0_1_1
    replace c0_1_2 := hx2.cell c0_1_2
    replace c0_2_0 := hx2.cell c0_2_0
    replace c0_2_1 := hx2.cell c0_2_1
    replace c0_2_2 := hx2.cell c0_2_2
    replace hE := hid (Ext.trans hE.out hx2)
    clear lt_1
    have lt_1 : w.heap.size < w2.heap.size := World.block_lt_of_cell? w2 _ c0_0_0
    clear lt_2
    have lt_2 : w.heap.size + 1 < w2.heap.size := World.block_lt_of_cell? w2 _ c0_1_0
    clear lt_3
    have lt_3 : w.heap.size + 1 + 1 < w2.heap.size := World.block_lt_of_cell? w2 _ c0_2_0
    clear hx2
    unfold vV
    have p0 := t.out.cell (o := 0) (by omega)
    have f0 := t.out.free (o := 0) (by omega)
    have p1 := t.out.cell (o := 1) (by omega)
    have f1 := t.out.free (o := 1) (by omega)
    have p2 := t.out.cell (o := 2) (by omega)
    have f2 := t.out.free (o := 2) (by omega)
    have kk := hid (put3 t.out (.int .i64 2) (.int .i64 0) (.string { data := #[] }))
    have Fin := hid (((hE.out.set (p := ⟨w.heap.size + 1 + 1, 0, none⟩) (show w.heap.size ≤ w.heap.size + 1 + 1 by omega) (.int .i64 2)).set (p := ⟨w.heap.size + 1 + 1, 1, none⟩) (show w.heap.size ≤ w.heap.size + 1 + 1 by omega) (.int .i64 0)).set (p := ⟨w.heap.size + 1 + 1, 2, none⟩) (show w.heap.size ≤ w.heap.size + 1 + 1 by omega) (.string { data := #[] }))
    clear t
    clear c0_2_0 c0_2_1 c0_2_2
    go_wp2
    obtain ⟨k0, k1, k2⟩ := kk.out
    exact bodyPost_ret (v := .tuple #[.agg #[.int .i64 2, .int .i64 0, .string { data := #[] }], .int .i64 0]) (by simp [results, Tryd.results110, go_sem, k0, k1, k2]) rfl ⟨rfl, Fin.out⟩
  · have d1 : (n == 0) = false := by simpa using z1
    by_cases z2 : n' = 0
    · rw [if_pos (Or.inr z2), num_t (by decide)]
      have d2 : (n' == 0) = true := by simpa using z2
      clear z1 z2
      go_enter Tryd.func110, Tryd.ntmps110
      go_upto_region 1 with fail
      generalize hw_ : (((w.alloc (.cells #[.int .i64 3, .int .i64 n, .string s] 23)).alloc (.cells #[.int .i64 3, .int .i64 n', .string s'] 23)).alloc (.cells #[.int .i64 0, .int .i64 0, .string { data := #[] }] 23)) = w1
      have hx1 : Ext (((w.alloc (.cells #[.int .i64 3, .int .i64 n, .string s] 23)).alloc (.cells #[.int .i64 3, .int .i64 n', .string s'] 23)).alloc (.cells #[.int .i64 0, .int .i64 0, .string { data := #[] }] 23)) w1 := by rw [hw_]; exact Ext.refl _
      clear hw_
      have t := hid (There.ext (There.newb ((w.alloc (.cells #[.int .i64 3, .int .i64 n, .string s] 23)).alloc (.cells #[.int .i64 3, .int .i64 n', .string s'] 23)) #[.int .i64 0, .int .i64 0, .string { data := #[] }] 23 (n := 3) (b := w.heap.size + 1 + 1) (by simp) (by decide)) hx1)
      have c0_0_0 : w1.cell? ⟨w.heap.size, 0, none⟩ = some (.int .i64 3) := hx1.cell (by go_simp)
      have c0_0_1 : w1.cell? ⟨w.heap.size, 1, none⟩ = some (.int .i64 n) := hx1.cell (by go_simp)
      have c0_0_2 : w1.cell? ⟨w.heap.size, 2, none⟩ = some (.string s) := hx1.cell (by go_simp)
      have c0_1_0 : w1.cell? ⟨w.heap.size + 1, 0, none⟩ = some (.int .i64 3) := hx1.cell (by go_simp)
      have c0_1_1 : w1.cell? ⟨w.heap.size + 1, 1, none⟩ = some (.int .i64 n') := hx1.cell (by go_simp)
      have c0_1_2 : w1.cell? ⟨w.heap.size + 1, 2, none⟩ = some (.string s') := hx1.cell (by go_simp)
      have c0_2_0 : w1.cell? ⟨w.heap.size + 1 + 1, 0, none⟩ = some (.int .i64 0) := hx1.cell (by go_simp)
      have c0_2_1 : w1.cell? ⟨w.heap.size + 1 + 1, 1, none⟩ = some (.int .i64 0) := hx1.cell (by go_simp)
      have c0_2_2 : w1.cell? ⟨w.heap.size + 1 + 1, 2, none⟩ = some (.string { data := #[] }) := hx1.cell (by go_simp)
      have hE := hid (Ext.trans ((((Ext.refl w).alloc_right _).alloc_right _).alloc_right _) hx1)
      have lt_1 : w.heap.size < w1.heap.size := World.block_lt_of_cell? w1 _ c0_0_0
      have lt_2 : w.heap.size + 1 < w1.heap.size := World.block_lt_of_cell? w1 _ c0_1_0
      have lt_3 : w.heap.size + 1 + 1 < w1.heap.size := World.block_lt_of_cell? w1 _ c0_2_0
      clear hx1
      go_wp2_with fail
      refine (Num_any 0 _).mono ?_
      rintro e w2 ⟨rfl, hx2⟩
      replace t := hid (There.ext t.out hx2)
      replace c0_0_0 := hx2.cell c0_0_0
      replace c0_0_1 := hx2.cell c0_0_1
      replace c0_0_2 := hx2.cell c0_0_2
      replace c0_1_0 := hx2.cell c0_1_0
      replace c0_1_1 := hx2.cell c0_1_1
      replace c0_1_2 := hx2.cell c0_1_2
      replace c0_2_0 := hx2.cell c0_2_0
      replace c0_2_1 := hx2.cell c0_2_1
      replace c0_2_2 := hx2.cell c0_2_2
      replace hE := hid (Ext.trans hE.out hx2)
      clear lt_1
      have lt_1 : w.heap.size < w2.heap.size := World.block_lt_of_cell? w2 _ c0_0_0
      clear lt_2
      have lt_2 : w.heap.size + 1 < w2.heap.size := World.block_lt_of_cell? w2 _ c0_1_0
      clear lt_3
      have lt_3 : w.heap.size + 1 + 1 < w2.heap.size := World.block_lt_of_cell? w2 _ c0_2_0
      clear hx2
      unfold vV
      have p0 := t.out.cell (o := 0) (by omega)
      have f0 := t.out.free (o := 0) (by omega)
      have p1 := t.out.cell (o := 1) (by omega)
      have f1 := t.out.free (o := 1) (by omega)
      have p2 := t.out.cell (o := 2) (by omega)
      have f2 := t.out.free (o := 2) (by omega)
      have kk := hid (put3 t.out (.int .i64 2) (.int .i64 0) (.string { data := #[] }))
      have Fin := hid (((hE.out.set (p := ⟨w.heap.size + 1 + 1, 0, none⟩) (show w.heap.size ≤ w.heap.size + 1 + 1 by omega) (.int .i64 2)).set (p := ⟨w.heap.size + 1 + 1, 1, none⟩) (show w.heap.size ≤ w.heap.size + 1 + 1 by omega) (.int .i64 0)).set (p := ⟨w.heap.size + 1 + 1, 2, none⟩) (show w.heap.size ≤ w.heap.size + 1 + 1 by omega) (.string { data := #[] }))
      clear t
      clear c0_2_0 c0_2_1 c0_2_2
      go_wp2
      obtain ⟨k0, k1, k2⟩ := kk.out
      exact bodyPost_ret (v := .tuple #[.agg #[.int .i64 2, .int .i64 0, .string { data := #[] }], .int .i64 0]) (by simp [results, Tryd.results110, go_sem, k0, k1, k2]) rfl ⟨rfl, Fin.out⟩
    · rw [if_neg (by omega), num_t (isNum_iff.2 (by omega))]
      have d2 : (n' == 0) = false := by simpa using z2
      have ew : IntKind.i64.wrap (n - n') = n - n' := IntWalk.i64_in _ (by omega)
      clear z1 z2
      go_enter Tryd.func110, Tryd.ntmps110
      go_upto_region 1 with fail
      generalize hw_ : (((w.alloc (.cells #[.int .i64 3, .int .i64 n, .string s] 23)).alloc (.cells #[.int .i64 3, .int .i64 n', .string s'] 23)).alloc (.cells #[.int .i64 0, .int .i64 0, .string { data := #[] }] 23)) = w1
      have hx1 : Ext (((w.alloc (.cells #[.int .i64 3, .int .i64 n, .string s] 23)).alloc (.cells #[.int .i64 3, .int .i64 n', .string s'] 23)).alloc (.cells #[.int .i64 0, .int .i64 0, .string { data := #[] }] 23)) w1 := by rw [hw_]; exact Ext.refl _
      clear hw_
      have t := hid (There.ext (There.newb ((w.alloc (.cells #[.int .i64 3, .int .i64 n, .string s] 23)).alloc (.cells #[.int .i64 3, .int .i64 n', .string s'] 23)) #[.int .i64 0, .int .i64 0, .string { data := #[] }] 23 (n := 3) (b := w.heap.size + 1 + 1) (by simp) (by decide)) hx1)
      have c0_0_0 : w1.cell? ⟨w.heap.size, 0, none⟩ = some (.int .i64 3) := hx1.cell (by go_simp)
      have c0_0_1 : w1.cell? ⟨w.heap.size, 1, none⟩ = some (.int .i64 n) := hx1.cell (by go_simp)
      have c0_0_2 : w1.cell? ⟨w.heap.size, 2, none⟩ = some (.string s) := hx1.cell (by go_simp)
      have c0_1_0 : w1.cell? ⟨w.heap.size + 1, 0, none⟩ = some (.int .i64 3) := hx1.cell (by go_simp)
      have c0_1_1 : w1.cell? ⟨w.heap.size + 1, 1, none⟩ = some (.int .i64 n') := hx1.cell (by go_simp)
      have c0_1_2 : w1.cell? ⟨w.heap.size + 1, 2, none⟩ = some (.string s') := hx1.cell (by go_simp)
      have c0_2_0 : w1.cell? ⟨w.heap.size + 1 + 1, 0, none⟩ = some (.int .i64 0) := hx1.cell (by go_simp)
      have c0_2_1 : w1.cell? ⟨w.heap.size + 1 + 1, 1, none⟩ = some (.int .i64 0) := hx1.cell (by go_simp)
      have c0_2_2 : w1.cell? ⟨w.heap.size + 1 + 1, 2, none⟩ = some (.string { data := #[] }) := hx1.cell (by go_simp)
      have hE := hid (Ext.trans ((((Ext.refl w).alloc_right _).alloc_right _).alloc_right _) hx1)
      have lt_1 : w.heap.size < w1.heap.size := World.block_lt_of_cell? w1 _ c0_0_0
      have lt_2 : w.heap.size + 1 < w1.heap.size := World.block_lt_of_cell? w1 _ c0_1_0
      have lt_3 : w.heap.size + 1 + 1 < w1.heap.size := World.block_lt_of_cell? w1 _ c0_2_0
      clear hx1
      go_wp2_with fail
      refine (Num_any (n - n') _).mono ?_
      rintro e w2 ⟨rfl, hx2⟩
      replace t := hid (There.ext t.out hx2)
      replace c0_0_0 := hx2.cell c0_0_0
      replace c0_0_1 := hx2.cell c0_0_1
      replace c0_0_2 := hx2.cell c0_0_2
      replace c0_1_0 := hx2.cell c0_1_0
      replace c0_1_1 := hx2.cell c0_1_1
      replace c0_1_2 := hx2.cell c0_1_2
      replace c0_2_0 := hx2.cell c0_2_0
      replace c0_2_1 := hx2.cell c0_2_1
      replace c0_2_2 := hx2.cell c0_2_2
      replace hE := hid (Ext.trans hE.out hx2)
      clear lt_1
      have lt_1 : w.heap.size < w2.heap.size := World.block_lt_of_cell? w2 _ c0_0_0
      clear lt_2
      have lt_2 : w.heap.size + 1 < w2.heap.size := World.block_lt_of_cell? w2 _ c0_1_0
      clear lt_3
      have lt_3 : w.heap.size + 1 + 1 < w2.heap.size := World.block_lt_of_cell? w2 _ c0_2_0
      clear hx2
      unfold vV
      have p0 := t.out.cell (o := 0) (by omega)
      have f0 := t.out.free (o := 0) (by omega)
      have p1 := t.out.cell (o := 1) (by omega)
      have f1 := t.out.free (o := 1) (by omega)
      have p2 := t.out.cell (o := 2) (by omega)
      have f2 := t.out.free (o := 2) (by omega)
      have kk := hid (put3 t.out (.int .i64 2) (.int .i64 (n - n')) (.string { data := #[] }))
      have Fin := hid (((hE.out.set (p := ⟨w.heap.size + 1 + 1, 0, none⟩) (show w.heap.size ≤ w.heap.size + 1 + 1 by omega) (.int .i64 2)).set (p := ⟨w.heap.size + 1 + 1, 1, none⟩) (show w.heap.size ≤ w.heap.size + 1 + 1 by omega) (.int .i64 (n - n'))).set (p := ⟨w.heap.size + 1 + 1, 2, none⟩) (show w.heap.size ≤ w.heap.size + 1 + 1 by omega) (.string { data := #[] }))
      clear t
      clear c0_2_0 c0_2_1 c0_2_2
      go_wp2
      obtain ⟨k0, k1, k2⟩ := kk.out
      exact bodyPost_ret (v := .tuple #[.agg #[.int .i64 2, .int .i64 (n - n'), .string { data := #[] }], .int .i64 0]) (by simp [results, Tryd.results110, go_sem, k0, k1, k2]) rfl ⟨rfl, Fin.out⟩
set_option maxRecDepth 100000 in
set_option maxHeartbeats 2000000 in
theorem others_sub44 (n : Int) (s : ByteArray) (n' : Int) (s' : ByteArray) (w : World) (h1 : Bd 4 n s) (h2 : Bd 4 n' s') : Calls Tryd.prog 110 #[.int .i64 1, vV 4 n s, vV 4 n' s'] w (GiveP (textR (subT s s')) w) := by
  unfold vV
  have b1 := h1.2
  have b2 := h2.2
  have ht := trim_size s 32
  have hT : Hid (trimR s 32 ++ s' ++ s.extract (trimR s 32).size s.size = subT s s') := rfl
  have hsum : ¬ ((trimR s 32).size + s'.size > 9223372036854775807) := by omega
  go_enter Tryd.func110, Tryd.ntmps110
  go_upto_region 1 with fail
  generalize hw_ : (((w.alloc (.cells #[.int .i64 4, .int .i64 n, .string s] 23)).alloc (.cells #[.int .i64 4, .int .i64 n', .string s'] 23)).alloc (.cells #[.int .i64 0, .int .i64 0, .string { data := #[] }] 23)) = w1
  have hx1 : Ext (((w.alloc (.cells #[.int .i64 4, .int .i64 n, .string s] 23)).alloc (.cells #[.int .i64 4, .int .i64 n', .string s'] 23)).alloc (.cells #[.int .i64 0, .int .i64 0, .string { data := #[] }] 23)) w1 := by rw [hw_]; exact Ext.refl _
  clear hw_
  have t := hid (There.ext (There.newb ((w.alloc (.cells #[.int .i64 4, .int .i64 n, .string s] 23)).alloc (.cells #[.int .i64 4, .int .i64 n', .string s'] 23)) #[.int .i64 0, .int .i64 0, .string { data := #[] }] 23 (n := 3) (b := w.heap.size + 1 + 1) (by simp) (by decide)) hx1)
  have c0_0_0 : w1.cell? ⟨w.heap.size, 0, none⟩ = some (.int .i64 4) := hx1.cell (by go_simp)
  have c0_0_1 : w1.cell? ⟨w.heap.size, 1, none⟩ = some (.int .i64 n) := hx1.cell (by go_simp)
  have c0_0_2 : w1.cell? ⟨w.heap.size, 2, none⟩ = some (.string s) := hx1.cell (by go_simp)
  have c0_1_0 : w1.cell? ⟨w.heap.size + 1, 0, none⟩ = some (.int .i64 4) := hx1.cell (by go_simp)
  have c0_1_1 : w1.cell? ⟨w.heap.size + 1, 1, none⟩ = some (.int .i64 n') := hx1.cell (by go_simp)
  have c0_1_2 : w1.cell? ⟨w.heap.size + 1, 2, none⟩ = some (.string s') := hx1.cell (by go_simp)
  have c0_2_0 : w1.cell? ⟨w.heap.size + 1 + 1, 0, none⟩ = some (.int .i64 0) := hx1.cell (by go_simp)
  have c0_2_1 : w1.cell? ⟨w.heap.size + 1 + 1, 1, none⟩ = some (.int .i64 0) := hx1.cell (by go_simp)
  have c0_2_2 : w1.cell? ⟨w.heap.size + 1 + 1, 2, none⟩ = some (.string { data := #[] }) := hx1.cell (by go_simp)
  have hE := hid (Ext.trans ((((Ext.refl w).alloc_right _).alloc_right _).alloc_right _) hx1)
  have lt_1 : w.heap.size < w1.heap.size := World.block_lt_of_cell? w1 _ c0_0_0
  have lt_2 : w.heap.size + 1 < w1.heap.size := World.block_lt_of_cell? w1 _ c0_1_0
  have lt_3 : w.heap.size + 1 + 1 < w1.heap.size := World.block_lt_of_cell? w1 _ c0_2_0
  clear hx1
  go_wp2_with fail
  refine (Bare_any s (by unfold maxLen; omega) _).mono ?_
  rintro e w' ⟨rfl, rfl⟩
  generalize trimR s 32 = T at *
  have hs3 : ¬ (T.size + s'.size + (s.size - T.size) > 9223372036854775807) := by omega
  have hs4 : T.size + s'.size + (s.size - T.size) ≤ 9223372036854775807 := by omega
  go_wp2_with fail
  have HS : Hid (∀ w', w'.cell? ⟨w.heap.size, 2, none⟩ = some (.string s) → w'.cell? ⟨w.heap.size + 1, 2, none⟩ = some (.string s') → Ext w w' → There w' (w.heap.size + 1 + 1) 3 → (w'.cell? ⟨w.heap.size, 2, none⟩ = some (.string s) ∧ w'.cell? ⟨w.heap.size + 1, 2, none⟩ = some (.string s') ∧ Ext w w' ∧ There w' (w.heap.size + 1 + 1) 3 ∧ w'.cell? ⟨w.heap.size + 1 + 1, 0, none⟩ = some (cellv w' ⟨w.heap.size + 1 + 1, 0, none⟩) ∧ w'.cell? ⟨w.heap.size + 1 + 1, 1, none⟩ = some (cellv w' ⟨w.heap.size + 1 + 1, 1, none⟩) ∧ w'.cell? ⟨w.heap.size + 1 + 1, 2, none⟩ = some (cellv w' ⟨w.heap.size + 1 + 1, 2, none⟩) ∧ w'.frozen? ⟨w.heap.size + 1 + 1, 0, none⟩ = false ∧ w'.frozen? ⟨w.heap.size + 1 + 1, 1, none⟩ = false ∧ w'.frozen? ⟨w.heap.size + 1 + 1, 2, none⟩ = false)) := fun w' y0 y1 y2 y3 => ⟨y0, y1, y2, y3, y3.cell (o := 0) (by omega), y3.cell (o := 1) (by omega), y3.cell (o := 2) (by omega), y3.free (o := 0) (by omega), y3.free (o := 1) (by omega), y3.free (o := 2) (by omega)⟩
  have I := hid (HS.out w1.drew c0_0_2 c0_1_2 hE.out.drew_right t.out.drew)
  have hE1 := hid hE.out.drew_right
  have t1 := hid t.out.drew
  clear hE t lt_1 lt_2 lt_3 c0_0_0 c0_0_1 c0_0_2 c0_1_0 c0_1_1 c0_1_2 c0_2_0 c0_2_1 c0_2_2
  go_region_held3 (fun w' => w'.cell? ⟨w.heap.size, 2, none⟩ = some (.string s) ∧ w'.cell? ⟨w.heap.size + 1, 2, none⟩ = some (.string s') ∧ Ext w w' ∧ There w' (w.heap.size + 1 + 1) 3 ∧ w'.cell? ⟨w.heap.size + 1 + 1, 0, none⟩ = some (cellv w' ⟨w.heap.size + 1 + 1, 0, none⟩) ∧ w'.cell? ⟨w.heap.size + 1 + 1, 1, none⟩ = some (cellv w' ⟨w.heap.size + 1 + 1, 1, none⟩) ∧ w'.cell? ⟨w.heap.size + 1 + 1, 2, none⟩ = some (cellv w' ⟨w.heap.size + 1 + 1, 2, none⟩) ∧ w'.frozen? ⟨w.heap.size + 1 + 1, 0, none⟩ = false ∧ w'.frozen? ⟨w.heap.size + 1 + 1, 1, none⟩ = false ∧ w'.frozen? ⟨w.heap.size + 1 + 1, 2, none⟩ = false)
    ((first | exact I.out | (go_split_ands; exact HS.out _ (hx3.cell (by assumption)) (hx3.cell (by assumption)) (Ext.trans (by assumption) hx3) (There.ext (by assumption) hx3)) | (go_split_ands; exact HS.out _ (cell_far (cell_far (cell_far (by assumption) (by simp <;> omega)) (by simp <;> omega)) (by simp <;> omega)) (cell_far (cell_far (cell_far (by assumption) (by simp <;> omega)) (by simp <;> omega)) (by simp <;> omega)) (Ext.set (Ext.set (Ext.set (by assumption) (by simp <;> omega) _) (by simp <;> omega) _) (by simp <;> omega) _) (There.set (There.set (There.set (by assumption) _ _) _ _) _ _))))
    ((first | (go_at_call 135; go_split_ands; refine (rtext_any _ _).mono ?_; rintro e w3 ⟨rfl, hx3⟩; rw [hT.out])))
  all_goals have t3 := There.ext t1.out hx3
  all_goals have kk := hid (put3 t3 (.int .i64 (textR (subT s s')).1) (.int .i64 (textR (subT s s')).2.1) (.string (textR (subT s s')).2.2.1))
  all_goals have Fin := hid (Ext.set (Ext.set (Ext.set (Ext.trans hE1.out hx3) (p := ⟨w.heap.size + 1 + 1, 0, none⟩) (show w.heap.size ≤ w.heap.size + 1 + 1 by omega) (.int .i64 (textR (subT s s')).1)) (p := ⟨w.heap.size + 1 + 1, 1, none⟩) (show w.heap.size ≤ w.heap.size + 1 + 1 by omega) (.int .i64 (textR (subT s s')).2.1)) (p := ⟨w.heap.size + 1 + 1, 2, none⟩) (show w.heap.size ≤ w.heap.size + 1 + 1 by omega) (.string (textR (subT s s')).2.2.1))
  all_goals clear t3 t1 hE1 I HS
  all_goals go_wp2
  all_goals obtain ⟨k0, k1, k2⟩ := kk.out
  all_goals exact bodyPost_ret (v := .tuple #[.agg #[.int .i64 (textR (subT s s')).1, .int .i64 (textR (subT s s')).2.1, .string (textR (subT s s')).2.2.1], .int .i64 (textR (subT s s')).2.2.2]) (by simp [results, Tryd.results110, go_sem, k0, k1, k2]) rfl ⟨rfl, Fin.out⟩
set_option maxRecDepth 100000 in
set_option maxHeartbeats 2000000 in
theorem others_no (op k n : Int) (s : ByteArray) (k' n' : Int) (s' : ByteArray) (w : World) (hk : k = 1 ∨ k = 2 ∨ k = 3 ∨ k = 4) (hk' : k' = 1 ∨ k' = 2 ∨ k' = 3 ∨ k' = 4) (h0 : ¬ (op = 0 ∧ ((k = 3 ∧ k' = 2) ∨ (k = 2 ∧ k' = 3) ∨ (k = 4 ∧ k' = 4)))) (h1 : ¬ (op = 1 ∧ ((k = 3 ∧ k' = 2) ∨ (k = 3 ∧ k' = 3) ∨ (k = 4 ∧ k' = 4)))) : Calls Tryd.prog 110 #[.int .i64 op, vV k n s, vV k' n' s'] w (GiveP (diedR 1) w) := by
  unfold vV
  by_cases p0 : op = 0
  · subst p0
    rcases hk with rfl | rfl | rfl | rfl <;> rcases hk' with rfl | rfl | rfl | rfl <;> (first | (exfalso; revert h0 h1; decide) | skip)
    all_goals clear h0 h1
    all_goals go_enter Tryd.func110, Tryd.ntmps110
    all_goals go_wp2
    all_goals exact bodyPost_ret (v := .tuple #[.agg #[.int .i64 0, .int .i64 0, .string ByteArray.empty], .int .i64 1]) (by simp [results, Tryd.results110, go_sem]; try rfl) rfl ⟨rfl, (((Ext.refl w).alloc_right _).alloc_right _).alloc_right _⟩
  by_cases p1 : op = 1
  · subst p1
    clear p0
    rcases hk with rfl | rfl | rfl | rfl <;> rcases hk' with rfl | rfl | rfl | rfl <;> (first | (exfalso; revert h0 h1; decide) | skip)
    all_goals clear h0 h1
    all_goals go_enter Tryd.func110, Tryd.ntmps110
    all_goals go_wp2
    all_goals exact bodyPost_ret (v := .tuple #[.agg #[.int .i64 0, .int .i64 0, .string ByteArray.empty], .int .i64 1]) (by simp [results, Tryd.results110, go_sem]; try rfl) rfl ⟨rfl, (((Ext.refl w).alloc_right _).alloc_right _).alloc_right _⟩
  have d0 : (op == 0) = false := by simpa using p0
  have d1 : (op == 1) = false := by simpa using p1
  clear h0 h1 p0 p1
  have h0 : True := trivial
  have h1 : True := trivial
  rcases hk with rfl | rfl | rfl | rfl <;> rcases hk' with rfl | rfl | rfl | rfl
  all_goals clear h0 h1
  all_goals go_enter Tryd.func110, Tryd.ntmps110
  all_goals go_wp2
  all_goals exact bodyPost_ret (v := .tuple #[.agg #[.int .i64 0, .int .i64 0, .string ByteArray.empty], .int .i64 1]) (by simp [results, Tryd.results110, go_sem]; try rfl) rfl ⟨rfl, (((Ext.refl w).alloc_right _).alloc_right _).alloc_right _⟩
end Go.Proofs.YtkjcfnmbnddhjaaDoor
