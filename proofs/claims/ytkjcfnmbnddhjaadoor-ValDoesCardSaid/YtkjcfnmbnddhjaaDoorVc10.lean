/-
  What the reference's Do gives.
-/
import Derived.Test.YtkjcfnmbnddhjaaDoorVc9
namespace Go.Proofs.YtkjcfnmbnddhjaaDoor
open Go.RowKit
set_option linter.unusedVariables false
set_option linter.unusedSimpArgs false
set_option maxRecDepth 100000 in
set_option maxHeartbeats 2000000 in
theorem Done_nil (op k n : Int) (s : ByteArray) (k' n' : Int) (s' : ByteArray) (w : World) (hk : k = 0 ∨ k' = 0) : Calls Tryd.prog 68 #[.int .i64 op, vV k n s, vV k' n' s'] w (GiveP (diedR 0) w) := by
  unfold vV
  rcases Bool.eq_false_or_eq_true (k == 0) with g | g
  · clear hk
    go_enter Tryd.func68, Tryd.ntmps68
    go_wp2
    exact bodyPost_ret (v := .tuple #[.agg #[.int .i64 0, .int .i64 0, .string ByteArray.empty], .int .i64 0]) (by simp [results, Tryd.results68, go_sem]; try rfl) rfl ⟨rfl, (((Ext.refl w).alloc_right _).alloc_right _).alloc_right _⟩
  · have g2 : (k' == 0) = true := by
      have : k ≠ 0 := by simpa using g
      simpa using (show k' = 0 by omega)
    clear hk
    go_enter Tryd.func68, Tryd.ntmps68
    go_wp2
    exact bodyPost_ret (v := .tuple #[.agg #[.int .i64 0, .int .i64 0, .string ByteArray.empty], .int .i64 0]) (by simp [results, Tryd.results68, go_sem]; try rfl) rfl ⟨rfl, (((Ext.refl w).alloc_right _).alloc_right _).alloc_right _⟩
set_option maxRecDepth 100000 in
set_option maxHeartbeats 2000000 in
theorem rDo_err (op k n : Int) (s : ByteArray) (k' n' : Int) (s' : ByteArray) (w : World) (h : bothE k n s k' n' s' ≠ 0) : Calls Tryd.prog 18 #[.int .i64 op, vV k n s, vV k' n' s'] w (GiveX (bothE k n s k' n' s') w) := by
  have e1 : (bothE k n s k' n' s' != 0) = true := by simpa using h
  unfold vV
  go_enter Tryd.func18, Tryd.ntmps18
  go_wp2_with fail
  refine (rBoth_any k n s k' n' s' _).mono ?_
  rintro e w1 ⟨rfl, hx1⟩
  have t := hid (There.ext (There.newb ((w.alloc (.cells #[.int .i64 k, .int .i64 n, .string s] 23)).alloc (.cells #[.int .i64 k', .int .i64 n', .string s'] 23)) #[.int .i64 0, .int .i64 0, .string { data := #[] }] 23 (n := 3) (b := w.heap.size + 1 + 1) (by simp) (by decide)) hx1)
  have c0_0_0 : w1.cell? ⟨w.heap.size, 0, none⟩ = some (.int .i64 k) := hx1.cell (by go_simp)
  have c0_0_1 : w1.cell? ⟨w.heap.size, 1, none⟩ = some (.int .i64 n) := hx1.cell (by go_simp)
  have c0_0_2 : w1.cell? ⟨w.heap.size, 2, none⟩ = some (.string s) := hx1.cell (by go_simp)
  have c0_1_0 : w1.cell? ⟨w.heap.size + 1, 0, none⟩ = some (.int .i64 k') := hx1.cell (by go_simp)
  have c0_1_1 : w1.cell? ⟨w.heap.size + 1, 1, none⟩ = some (.int .i64 n') := hx1.cell (by go_simp)
  have c0_1_2 : w1.cell? ⟨w.heap.size + 1, 2, none⟩ = some (.string s') := hx1.cell (by go_simp)
  have c0_2_0 : w1.cell? ⟨w.heap.size + 1 + 1, 0, none⟩ = some (.int .i64 0) := hx1.cell (by go_simp)
  have c0_2_1 : w1.cell? ⟨w.heap.size + 1 + 1, 1, none⟩ = some (.int .i64 0) := hx1.cell (by go_simp)
  have c0_2_2 : w1.cell? ⟨w.heap.size + 1 + 1, 2, none⟩ = some (.string { data := #[] }) := hx1.cell (by go_simp)
  have hE := hid (Ext.trans ((((Ext.refl w).alloc_right _).alloc_right _).alloc_right _) hx1)
  have lt_1 : w.heap.size < w1.heap.size := World.block_lt_of_cell? w1 _ c0_0_0
  have lt_2 : w.heap.size + 1 < w1.heap.size := World.block_lt_of_cell? w1 _ c0_1_0
  have lt_3 : w.heap.size + 1 + 1 < w1.heap.size := World.block_lt_of_cell? w1 _ c0_2_0
  clear hx1
  have p0 := t.out.cell (o := 0) (by omega)
  have f0 := t.out.free (o := 0) (by omega)
  have p1 := t.out.cell (o := 1) (by omega)
  have f1 := t.out.free (o := 1) (by omega)
  have p2 := t.out.cell (o := 2) (by omega)
  have f2 := t.out.free (o := 2) (by omega)
  have kk := hid (put3 t.out (.int .i64 0) (.int .i64 0) (.string { data := #[] }))
  have Fin := hid (((hE.out.set (p := ⟨w.heap.size + 1 + 1, 0, none⟩) (show w.heap.size ≤ w.heap.size + 1 + 1 by omega) (.int .i64 0)).set (p := ⟨w.heap.size + 1 + 1, 1, none⟩) (show w.heap.size ≤ w.heap.size + 1 + 1 by omega) (.int .i64 0)).set (p := ⟨w.heap.size + 1 + 1, 2, none⟩) (show w.heap.size ≤ w.heap.size + 1 + 1 by omega) (.string { data := #[] }))
  clear t
  clear c0_2_0 c0_2_1 c0_2_2
  go_wp2
  obtain ⟨k0, k1, k2⟩ := kk.out
  exact bodyPost_ret (v := .tuple #[.agg #[.int .i64 0, .int .i64 0, .string { data := #[] }], .int .i64 0, .int .i64 (bothE k n s k' n' s')]) (by simp [results, Tryd.results18, go_sem, k0, k1, k2]) rfl ⟨rfl, Fin.out⟩
set_option maxRecDepth 100000 in
set_option maxHeartbeats 2000000 in
theorem rDo_range (op k n : Int) (s : ByteArray) (k' n' : Int) (s' : ByteArray) (w : World) (h1 : Bd k n s) (h2 : Bd k' n' s') (h : op < 0 ∨ 5 < op) : Calls Tryd.prog 18 #[.int .i64 op, vV k n s, vV k' n' s'] w (GiveX 1 w) := by
  have hb := bd_both h1 h2
  unfold vV
  by_cases g : op < 0
  · have d1 : decide (op < 0) = true := by simpa using g
    clear h g
    go_enter Tryd.func18, Tryd.ntmps18
    go_wp2_with fail
    refine (rBoth_any k n s k' n' s' _).mono ?_
    rintro e w1 ⟨rfl, hx1⟩
    have t := hid (There.ext (There.newb ((w.alloc (.cells #[.int .i64 k, .int .i64 n, .string s] 23)).alloc (.cells #[.int .i64 k', .int .i64 n', .string s'] 23)) #[.int .i64 0, .int .i64 0, .string { data := #[] }] 23 (n := 3) (b := w.heap.size + 1 + 1) (by simp) (by decide)) hx1)
    have c0_0_0 : w1.cell? ⟨w.heap.size, 0, none⟩ = some (.int .i64 k) := hx1.cell (by go_simp)
    have c0_0_1 : w1.cell? ⟨w.heap.size, 1, none⟩ = some (.int .i64 n) := hx1.cell (by go_simp)
    have c0_0_2 : w1.cell? ⟨w.heap.size, 2, none⟩ = some (.string s) := hx1.cell (by go_simp)
    have c0_1_0 : w1.cell? ⟨w.heap.size + 1, 0, none⟩ = some (.int .i64 k') := hx1.cell (by go_simp)
    have c0_1_1 : w1.cell? ⟨w.heap.size + 1, 1, none⟩ = some (.int .i64 n') := hx1.cell (by go_simp)
    have c0_1_2 : w1.cell? ⟨w.heap.size + 1, 2, none⟩ = some (.string s') := hx1.cell (by go_simp)
    have c0_2_0 : w1.cell? ⟨w.heap.size + 1 + 1, 0, none⟩ = some (.int .i64 0) := hx1.cell (by go_simp)
    have c0_2_1 : w1.cell? ⟨w.heap.size + 1 + 1, 1, none⟩ = some (.int .i64 0) := hx1.cell (by go_simp)
    have c0_2_2 : w1.cell? ⟨w.heap.size + 1 + 1, 2, none⟩ = some (.string { data := #[] }) := hx1.cell (by go_simp)
    have hE := hid (Ext.trans ((((Ext.refl w).alloc_right _).alloc_right _).alloc_right _) hx1)
    have lt_1 : w.heap.size < w1.heap.size := World.block_lt_of_cell? w1 _ c0_0_0
    have lt_2 : w.heap.size + 1 < w1.heap.size := World.block_lt_of_cell? w1 _ c0_1_0
    have lt_3 : w.heap.size + 1 + 1 < w1.heap.size := World.block_lt_of_cell? w1 _ c0_2_0
    clear hx1
    rw [hb]
    have p0 := t.out.cell (o := 0) (by omega)
    have f0 := t.out.free (o := 0) (by omega)
    have p1 := t.out.cell (o := 1) (by omega)
    have f1 := t.out.free (o := 1) (by omega)
    have p2 := t.out.cell (o := 2) (by omega)
    have f2 := t.out.free (o := 2) (by omega)
    have kk := hid (put3 t.out (.int .i64 0) (.int .i64 0) (.string { data := #[] }))
    have Fin := hid (((hE.out.set (p := ⟨w.heap.size + 1 + 1, 0, none⟩) (show w.heap.size ≤ w.heap.size + 1 + 1 by omega) (.int .i64 0)).set (p := ⟨w.heap.size + 1 + 1, 1, none⟩) (show w.heap.size ≤ w.heap.size + 1 + 1 by omega) (.int .i64 0)).set (p := ⟨w.heap.size + 1 + 1, 2, none⟩) (show w.heap.size ≤ w.heap.size + 1 + 1 by omega) (.string { data := #[] }))
    clear t
    clear c0_2_0 c0_2_1 c0_2_2
    go_wp2
    obtain ⟨k0, k1, k2⟩ := kk.out
    exact bodyPost_ret (v := .tuple #[.agg #[.int .i64 0, .int .i64 0, .string { data := #[] }], .int .i64 0, .int .i64 1]) (by simp [results, Tryd.results18, go_sem, k0, k1, k2]) rfl ⟨rfl, Fin.out⟩
  · have d1 : decide (op < 0) = false := by simpa using g
    have d2 : decide (5 < op) = true := by simp; omega
    clear h g
    go_enter Tryd.func18, Tryd.ntmps18
    go_wp2_with fail
    refine (rBoth_any k n s k' n' s' _).mono ?_
    rintro e w1 ⟨rfl, hx1⟩
    have t := hid (There.ext (There.newb ((w.alloc (.cells #[.int .i64 k, .int .i64 n, .string s] 23)).alloc (.cells #[.int .i64 k', .int .i64 n', .string s'] 23)) #[.int .i64 0, .int .i64 0, .string { data := #[] }] 23 (n := 3) (b := w.heap.size + 1 + 1) (by simp) (by decide)) hx1)
    have c0_0_0 : w1.cell? ⟨w.heap.size, 0, none⟩ = some (.int .i64 k) := hx1.cell (by go_simp)
    have c0_0_1 : w1.cell? ⟨w.heap.size, 1, none⟩ = some (.int .i64 n) := hx1.cell (by go_simp)
    have c0_0_2 : w1.cell? ⟨w.heap.size, 2, none⟩ = some (.string s) := hx1.cell (by go_simp)
    have c0_1_0 : w1.cell? ⟨w.heap.size + 1, 0, none⟩ = some (.int .i64 k') := hx1.cell (by go_simp)
    have c0_1_1 : w1.cell? ⟨w.heap.size + 1, 1, none⟩ = some (.int .i64 n') := hx1.cell (by go_simp)
    have c0_1_2 : w1.cell? ⟨w.heap.size + 1, 2, none⟩ = some (.string s') := hx1.cell (by go_simp)
    have c0_2_0 : w1.cell? ⟨w.heap.size + 1 + 1, 0, none⟩ = some (.int .i64 0) := hx1.cell (by go_simp)
    have c0_2_1 : w1.cell? ⟨w.heap.size + 1 + 1, 1, none⟩ = some (.int .i64 0) := hx1.cell (by go_simp)
    have c0_2_2 : w1.cell? ⟨w.heap.size + 1 + 1, 2, none⟩ = some (.string { data := #[] }) := hx1.cell (by go_simp)
    have hE := hid (Ext.trans ((((Ext.refl w).alloc_right _).alloc_right _).alloc_right _) hx1)
    have lt_1 : w.heap.size < w1.heap.size := World.block_lt_of_cell? w1 _ c0_0_0
    have lt_2 : w.heap.size + 1 < w1.heap.size := World.block_lt_of_cell? w1 _ c0_1_0
    have lt_3 : w.heap.size + 1 + 1 < w1.heap.size := World.block_lt_of_cell? w1 _ c0_2_0
    clear hx1
    rw [hb]
    have p0 := t.out.cell (o := 0) (by omega)
    have f0 := t.out.free (o := 0) (by omega)
    have p1 := t.out.cell (o := 1) (by omega)
    have f1 := t.out.free (o := 1) (by omega)
    have p2 := t.out.cell (o := 2) (by omega)
    have f2 := t.out.free (o := 2) (by omega)
    have kk := hid (put3 t.out (.int .i64 0) (.int .i64 0) (.string { data := #[] }))
    have Fin := hid (((hE.out.set (p := ⟨w.heap.size + 1 + 1, 0, none⟩) (show w.heap.size ≤ w.heap.size + 1 + 1 by omega) (.int .i64 0)).set (p := ⟨w.heap.size + 1 + 1, 1, none⟩) (show w.heap.size ≤ w.heap.size + 1 + 1 by omega) (.int .i64 0)).set (p := ⟨w.heap.size + 1 + 1, 2, none⟩) (show w.heap.size ≤ w.heap.size + 1 + 1 by omega) (.string { data := #[] }))
    clear t
    clear c0_2_0 c0_2_1 c0_2_2
    go_wp2
    obtain ⟨k0, k1, k2⟩ := kk.out
    exact bodyPost_ret (v := .tuple #[.agg #[.int .i64 0, .int .i64 0, .string { data := #[] }], .int .i64 0, .int .i64 1]) (by simp [results, Tryd.results18, go_sem, k0, k1, k2]) rfl ⟨rfl, Fin.out⟩
set_option maxRecDepth 100000 in
set_option maxHeartbeats 2000000 in
theorem rDo_nil (op k n : Int) (s : ByteArray) (k' n' : Int) (s' : ByteArray) (w : World) (h1 : Bd k n s) (h2 : Bd k' n' s') (h : 0 ≤ op ∧ op ≤ 5) (hk : k = 0 ∨ k' = 0) : Calls Tryd.prog 18 #[.int .i64 op, vV k n s, vV k' n' s'] w (GiveX 0 w) := by
  have hb := bd_both h1 h2
  have hn := hid (fun w => Done_nil op k n s k' n' s' w hk)
  unfold vV
  have d1 : decide (op < 0) = false := by simp; omega
  have d2 : decide (5 < op) = false := by simp; omega
  clear h hk
  go_enter Tryd.func18, Tryd.ntmps18
  go_wp2_with fail
  refine (rBoth_any k n s k' n' s' _).mono ?_
  rintro e w1 ⟨rfl, hx1⟩
  have t := hid (There.ext (There.newb ((w.alloc (.cells #[.int .i64 k, .int .i64 n, .string s] 23)).alloc (.cells #[.int .i64 k', .int .i64 n', .string s'] 23)) #[.int .i64 0, .int .i64 0, .string { data := #[] }] 23 (n := 3) (b := w.heap.size + 1 + 1) (by simp) (by decide)) hx1)
  have c0_0_0 : w1.cell? ⟨w.heap.size, 0, none⟩ = some (.int .i64 k) := hx1.cell (by go_simp)
  have c0_0_1 : w1.cell? ⟨w.heap.size, 1, none⟩ = some (.int .i64 n) := hx1.cell (by go_simp)
  have c0_0_2 : w1.cell? ⟨w.heap.size, 2, none⟩ = some (.string s) := hx1.cell (by go_simp)
  have c0_1_0 : w1.cell? ⟨w.heap.size + 1, 0, none⟩ = some (.int .i64 k') := hx1.cell (by go_simp)
  have c0_1_1 : w1.cell? ⟨w.heap.size + 1, 1, none⟩ = some (.int .i64 n') := hx1.cell (by go_simp)
  have c0_1_2 : w1.cell? ⟨w.heap.size + 1, 2, none⟩ = some (.string s') := hx1.cell (by go_simp)
  have c0_2_0 : w1.cell? ⟨w.heap.size + 1 + 1, 0, none⟩ = some (.int .i64 0) := hx1.cell (by go_simp)
  have c0_2_1 : w1.cell? ⟨w.heap.size + 1 + 1, 1, none⟩ = some (.int .i64 0) := hx1.cell (by go_simp)
  have c0_2_2 : w1.cell? ⟨w.heap.size + 1 + 1, 2, none⟩ = some (.string { data := #[] }) := hx1.cell (by go_simp)
  have hE := hid (Ext.trans ((((Ext.refl w).alloc_right _).alloc_right _).alloc_right _) hx1)
  have lt_1 : w.heap.size < w1.heap.size := World.block_lt_of_cell? w1 _ c0_0_0
  have lt_2 : w.heap.size + 1 < w1.heap.size := World.block_lt_of_cell? w1 _ c0_1_0
  have lt_3 : w.heap.size + 1 + 1 < w1.heap.size := World.block_lt_of_cell? w1 _ c0_2_0
  clear hx1
  rw [hb]
  go_wp2_with fail
  refine (hn.out _).mono ?_
  rintro e w2 ⟨rfl, hx2⟩
  replace t := hid (There.ext t.out hx2)
  replace c0_0_0 := hx2.cell c0_0_0
  replace c0_0_1 := hx2.cell c0_0_1
  replace c0_0_2 := hx2.cell c0_0_2
  replace c0_1_0 := hx2.cell c0_1_0
  replace c0_1_1 := hx2.cell c0_1_1
  replace c0_1_2 := hx2.cell c0_1_2
  replace c0_2_0 := hx2.cell c0_2_0
  replace c0_2_1 := hx2.cell c0_2_1
  replace c0_2_2 := hx2.cell c0_2_2
  replace hE := hid (Ext.trans hE.out hx2)
  clear lt_1
  have lt_1 : w.heap.size < w2.heap.size := World.block_lt_of_cell? w2 _ c0_0_0
  clear lt_2
  have lt_2 : w.heap.size + 1 < w2.heap.size := World.block_lt_of_cell? w2 _ c0_1_0
  clear lt_3
  have lt_3 : w.heap.size + 1 + 1 < w2.heap.size := World.block_lt_of_cell? w2 _ c0_2_0
  clear hx2
  go_upto_region 7 with fail
  generalize hw_ : (w2.alloc (.cells #[.int .i64 (diedR 0).1, .int .i64 (diedR 0).2.1, .string (diedR 0).2.2.1] 23)) = w9
  have hx9 : Ext (w2.alloc (.cells #[.int .i64 (diedR 0).1, .int .i64 (diedR 0).2.1, .string (diedR 0).2.2.1] 23)) w9 := by rw [hw_]; exact Ext.refl _
  clear hw_
  replace t := hid (There.ext (There.ext t.out ((Ext.refl _).alloc_right _)) hx9)
  replace c0_0_0 := hx9.cell (cell_alloc c0_0_0 _)
  replace c0_0_1 := hx9.cell (cell_alloc c0_0_1 _)
  replace c0_0_2 := hx9.cell (cell_alloc c0_0_2 _)
  replace c0_1_0 := hx9.cell (cell_alloc c0_1_0 _)
  replace c0_1_1 := hx9.cell (cell_alloc c0_1_1 _)
  replace c0_1_2 := hx9.cell (cell_alloc c0_1_2 _)
  replace c0_2_0 := hx9.cell (cell_alloc c0_2_0 _)
  replace c0_2_1 := hx9.cell (cell_alloc c0_2_1 _)
  replace c0_2_2 := hx9.cell (cell_alloc c0_2_2 _)
  have c2_0_0 : w9.cell? ⟨w2.heap.size, 0, none⟩ = some (.int .i64 (diedR 0).1) := hx9.cell (by go_simp)
  have c2_0_1 : w9.cell? ⟨w2.heap.size, 1, none⟩ = some (.int .i64 (diedR 0).2.1) := hx9.cell (by go_simp)
  have c2_0_2 : w9.cell? ⟨w2.heap.size, 2, none⟩ = some (.string (diedR 0).2.2.1) := hx9.cell (by go_simp)
  replace hE := hid (Ext.trans (hE.out.alloc_right _) hx9)
  clear lt_1
  have lt_1 : w.heap.size < w9.heap.size := World.block_lt_of_cell? w9 _ c0_0_0
  clear lt_2
  have lt_2 : w.heap.size + 1 < w9.heap.size := World.block_lt_of_cell? w9 _ c0_1_0
  clear lt_3
  have lt_3 : w.heap.size + 1 + 1 < w9.heap.size := World.block_lt_of_cell? w9 _ c0_2_0
  have lt_4 : w2.heap.size < w9.heap.size := World.block_lt_of_cell? w9 _ c2_0_0
  clear hx9
  have p0 := t.out.cell (o := 0) (by omega)
  have f0 := t.out.free (o := 0) (by omega)
  have p1 := t.out.cell (o := 1) (by omega)
  have f1 := t.out.free (o := 1) (by omega)
  have p2 := t.out.cell (o := 2) (by omega)
  have f2 := t.out.free (o := 2) (by omega)
  have kk := hid (put3 t.out (.int .i64 (diedR 0).1) (.int .i64 (diedR 0).2.1) (.string (diedR 0).2.2.1))
  have Fin := hid (((hE.out.set (p := ⟨w.heap.size + 1 + 1, 0, none⟩) (show w.heap.size ≤ w.heap.size + 1 + 1 by omega) (.int .i64 (diedR 0).1)).set (p := ⟨w.heap.size + 1 + 1, 1, none⟩) (show w.heap.size ≤ w.heap.size + 1 + 1 by omega) (.int .i64 (diedR 0).2.1)).set (p := ⟨w.heap.size + 1 + 1, 2, none⟩) (show w.heap.size ≤ w.heap.size + 1 + 1 by omega) (.string (diedR 0).2.2.1))
  clear t
  clear c0_2_0 c0_2_1 c0_2_2
  go_wp2
  obtain ⟨k0, k1, k2⟩ := kk.out
  exact bodyPost_ret (v := .tuple #[.agg #[.int .i64 (diedR 0).1, .int .i64 (diedR 0).2.1, .string (diedR 0).2.2.1], .int .i64 (diedR 0).2.2.2, .int .i64 0]) (by simp [results, Tryd.results18, go_sem, k0, k1, k2]) rfl ⟨rfl, Fin.out⟩
set_option maxRecDepth 100000 in
set_option maxHeartbeats 2000000 in
theorem rDo_0 (k n : Int) (s : ByteArray) (k' n' : Int) (s' : ByteArray) (w : World) (h1 : Bd k n s) (h2 : Bd k' n' s') (hk : k ≠ 0) (hk' : k' ≠ 0) : Calls Tryd.prog 18 #[.int .i64 0, vV k n s, vV k' n' s'] w (GiveD (addR k n s k' n' s') w) := by
  have hb := bd_both h1 h2
  have hn := hid (fun w => Done_0 k n s k' n' s' w h1 h2 hk hk')
  unfold vV
  clear hk hk'
  generalize addR k n s k' n' s' = X at *
  go_enter Tryd.func18, Tryd.ntmps18
  go_wp2_with fail
  refine (rBoth_any k n s k' n' s' _).mono ?_
  rintro e w1 ⟨rfl, hx1⟩
  have t := hid (There.ext (There.newb ((w.alloc (.cells #[.int .i64 k, .int .i64 n, .string s] 23)).alloc (.cells #[.int .i64 k', .int .i64 n', .string s'] 23)) #[.int .i64 0, .int .i64 0, .string { data := #[] }] 23 (n := 3) (b := w.heap.size + 1 + 1) (by simp) (by decide)) hx1)
  have c0_0_0 : w1.cell? ⟨w.heap.size, 0, none⟩ = some (.int .i64 k) := hx1.cell (by go_simp)
  have c0_0_1 : w1.cell? ⟨w.heap.size, 1, none⟩ = some (.int .i64 n) := hx1.cell (by go_simp)
  have c0_0_2 : w1.cell? ⟨w.heap.size, 2, none⟩ = some (.string s) := hx1.cell (by go_simp)
  have c0_1_0 : w1.cell? ⟨w.heap.size + 1, 0, none⟩ = some (.int .i64 k') := hx1.cell (by go_simp)
  have c0_1_1 : w1.cell? ⟨w.heap.size + 1, 1, none⟩ = some (.int .i64 n') := hx1.cell (by go_simp)
  have c0_1_2 : w1.cell? ⟨w.heap.size + 1, 2, none⟩ = some (.string s') := hx1.cell (by go_simp)
  have c0_2_0 : w1.cell? ⟨w.heap.size + 1 + 1, 0, none⟩ = some (.int .i64 0) := hx1.cell (by go_simp)
  have c0_2_1 : w1.cell? ⟨w.heap.size + 1 + 1, 1, none⟩ = some (.int .i64 0) := hx1.cell (by go_simp)
  have c0_2_2 : w1.cell? ⟨w.heap.size + 1 + 1, 2, none⟩ = some (.string { data := #[] }) := hx1.cell (by go_simp)
  have hE := hid (Ext.trans ((((Ext.refl w).alloc_right _).alloc_right _).alloc_right _) hx1)
  have lt_1 : w.heap.size < w1.heap.size := World.block_lt_of_cell? w1 _ c0_0_0
  have lt_2 : w.heap.size + 1 < w1.heap.size := World.block_lt_of_cell? w1 _ c0_1_0
  have lt_3 : w.heap.size + 1 + 1 < w1.heap.size := World.block_lt_of_cell? w1 _ c0_2_0
  clear hx1
  rw [hb]
  go_wp2_with fail
  refine (hn.out _).mono ?_
  rintro e w2 ⟨rfl, hx2⟩
  replace t := hid (There.ext t.out hx2)
  replace c0_0_0 := hx2.cell c0_0_0
  replace c0_0_1 := hx2.cell c0_0_1
  replace c0_0_2 := hx2.cell c0_0_2
  replace c0_1_0 := hx2.cell c0_1_0
  replace c0_1_1 := hx2.cell c0_1_1
  replace c0_1_2 := hx2.cell c0_1_2
  replace c0_2_0 := hx2.cell c0_2_0
  replace c0_2_1 := hx2.cell c0_2_1
  replace c0_2_2 := hx2.cell c0_2_2
  replace hE := hid (Ext.trans hE.out hx2)
  clear lt_1
  have lt_1 : w.heap.size < w2.heap.size := World.block_lt_of_cell? w2 _ c0_0_0
  clear lt_2
  have lt_2 : w.heap.size + 1 < w2.heap.size := World.block_lt_of_cell? w2 _ c0_1_0
  clear lt_3
  have lt_3 : w.heap.size + 1 + 1 < w2.heap.size := World.block_lt_of_cell? w2 _ c0_2_0
  clear hx2
  go_upto_region 7 with fail
  generalize hw_ : (w2.alloc (.cells #[.int .i64 X.1, .int .i64 X.2.1, .string X.2.2.1] 23)) = w9
  have hx9 : Ext (w2.alloc (.cells #[.int .i64 X.1, .int .i64 X.2.1, .string X.2.2.1] 23)) w9 := by rw [hw_]; exact Ext.refl _
  clear hw_
  replace t := hid (There.ext (There.ext t.out ((Ext.refl _).alloc_right _)) hx9)
  replace c0_0_0 := hx9.cell (cell_alloc c0_0_0 _)
  replace c0_0_1 := hx9.cell (cell_alloc c0_0_1 _)
  replace c0_0_2 := hx9.cell (cell_alloc c0_0_2 _)
  replace c0_1_0 := hx9.cell (cell_alloc c0_1_0 _)
  replace c0_1_1 := hx9.cell (cell_alloc c0_1_1 _)
  replace c0_1_2 := hx9.cell (cell_alloc c0_1_2 _)
  replace c0_2_0 := hx9.cell (cell_alloc c0_2_0 _)
  replace c0_2_1 := hx9.cell (cell_alloc c0_2_1 _)
  replace c0_2_2 := hx9.cell (cell_alloc c0_2_2 _)
  have c2_0_0 : w9.cell? ⟨w2.heap.size, 0, none⟩ = some (.int .i64 X.1) := hx9.cell (by go_simp)
  have c2_0_1 : w9.cell? ⟨w2.heap.size, 1, none⟩ = some (.int .i64 X.2.1) := hx9.cell (by go_simp)
  have c2_0_2 : w9.cell? ⟨w2.heap.size, 2, none⟩ = some (.string X.2.2.1) := hx9.cell (by go_simp)
  replace hE := hid (Ext.trans (hE.out.alloc_right _) hx9)
  clear lt_1
  have lt_1 : w.heap.size < w9.heap.size := World.block_lt_of_cell? w9 _ c0_0_0
  clear lt_2
  have lt_2 : w.heap.size + 1 < w9.heap.size := World.block_lt_of_cell? w9 _ c0_1_0
  clear lt_3
  have lt_3 : w.heap.size + 1 + 1 < w9.heap.size := World.block_lt_of_cell? w9 _ c0_2_0
  have lt_4 : w2.heap.size < w9.heap.size := World.block_lt_of_cell? w9 _ c2_0_0
  clear hx9
  have p0 := t.out.cell (o := 0) (by omega)
  have f0 := t.out.free (o := 0) (by omega)
  have p1 := t.out.cell (o := 1) (by omega)
  have f1 := t.out.free (o := 1) (by omega)
  have p2 := t.out.cell (o := 2) (by omega)
  have f2 := t.out.free (o := 2) (by omega)
  have kk := hid (put3 t.out (.int .i64 X.1) (.int .i64 X.2.1) (.string X.2.2.1))
  have Fin := hid (((hE.out.set (p := ⟨w.heap.size + 1 + 1, 0, none⟩) (show w.heap.size ≤ w.heap.size + 1 + 1 by omega) (.int .i64 X.1)).set (p := ⟨w.heap.size + 1 + 1, 1, none⟩) (show w.heap.size ≤ w.heap.size + 1 + 1 by omega) (.int .i64 X.2.1)).set (p := ⟨w.heap.size + 1 + 1, 2, none⟩) (show w.heap.size ≤ w.heap.size + 1 + 1 by omega) (.string X.2.2.1))
  clear t
  clear c0_2_0 c0_2_1 c0_2_2
  go_wp2
  obtain ⟨k0, k1, k2⟩ := kk.out
  exact bodyPost_ret (v := .tuple #[.agg #[.int .i64 X.1, .int .i64 X.2.1, .string X.2.2.1], .int .i64 X.2.2.2, .int .i64 0]) (by simp [results, Tryd.results18, go_sem, k0, k1, k2]) rfl ⟨rfl, Fin.out⟩
set_option maxRecDepth 100000 in
set_option maxHeartbeats 2000000 in
theorem rDo_1 (k n : Int) (s : ByteArray) (k' n' : Int) (s' : ByteArray) (w : World) (h1 : Bd k n s) (h2 : Bd k' n' s') (hk : k ≠ 0) (hk' : k' ≠ 0) : Calls Tryd.prog 18 #[.int .i64 1, vV k n s, vV k' n' s'] w (GiveD (subR k n s k' n' s') w) := by
  have hb := bd_both h1 h2
  have hn := hid (fun w => Done_1 k n s k' n' s' w h1 h2 hk hk')
  unfold vV
  clear hk hk'
  generalize subR k n s k' n' s' = X at *
  go_enter Tryd.func18, Tryd.ntmps18
  go_wp2_with fail
  refine (rBoth_any k n s k' n' s' _).mono ?_
  rintro e w1 ⟨rfl, hx1⟩
  have t := hid (There.ext (There.newb ((w.alloc (.cells #[.int .i64 k, .int .i64 n, .string s] 23)).alloc (.cells #[.int .i64 k', .int .i64 n', .string s'] 23)) #[.int .i64 0, .int .i64 0, .string { data := #[] }] 23 (n := 3) (b := w.heap.size + 1 + 1) (by simp) (by decide)) hx1)
  have c0_0_0 : w1.cell? ⟨w.heap.size, 0, none⟩ = some (.int .i64 k) := hx1.cell (by go_simp)
  have c0_0_1 : w1.cell? ⟨w.heap.size, 1, none⟩ = some (.int .i64 n) := hx1.cell (by go_simp)
  have c0_0_2 : w1.cell? ⟨w.heap.size, 2, none⟩ = some (.string s) := hx1.cell (by go_simp)
  have c0_1_0 : w1.cell? ⟨w.heap.size + 1, 0, none⟩ = some (.int .i64 k') := hx1.cell (by go_simp)
  have c0_1_1 : w1.cell? ⟨w.heap.size + 1, 1, none⟩ = some (.int .i64 n') := hx1.cell (by go_simp)
  have c0_1_2 : w1.cell? ⟨w.heap.size + 1, 2, none⟩ = some (.string s') := hx1.cell (by go_simp)
  have c0_2_0 : w1.cell? ⟨w.heap.size + 1 + 1, 0, none⟩ = some (.int .i64 0) := hx1.cell (by go_simp)
  have c0_2_1 : w1.cell? ⟨w.heap.size + 1 + 1, 1, none⟩ = some (.int .i64 0) := hx1.cell (by go_simp)
  have c0_2_2 : w1.cell? ⟨w.heap.size + 1 + 1, 2, none⟩ = some (.string { data := #[] }) := hx1.cell (by go_simp)
  have hE := hid (Ext.trans ((((Ext.refl w).alloc_right _).alloc_right _).alloc_right _) hx1)
  have lt_1 : w.heap.size < w1.heap.size := World.block_lt_of_cell? w1 _ c0_0_0
  have lt_2 : w.heap.size + 1 < w1.heap.size := World.block_lt_of_cell? w1 _ c0_1_0
  have lt_3 : w.heap.size + 1 + 1 < w1.heap.size := World.block_lt_of_cell? w1 _ c0_2_0
  clear hx1
  rw [hb]
  go_wp2_with fail
  refine (hn.out _).mono ?_
  rintro e w2 ⟨rfl, hx2⟩
  replace t := hid (There.ext t.out hx2)
  replace c0_0_0 := hx2.cell c0_0_0
  replace c0_0_1 := hx2.cell c0_0_1
  replace c0_0_2 := hx2.cell c0_0_2
  replace c0_1_0 := hx2.cell c0_1_0
  replace c0_1_1 := hx2.cell c0_1_1
  replace c0_1_2 := hx2.cell c0_1_2
  replace c0_2_0 := hx2.cell c0_2_0
  replace c0_2_1 := hx2.cell c0_2_1
  replace c0_2_2 := hx2.cell c0_2_2
  replace hE := hid (Ext.trans hE.out hx2)
  clear lt_1
  have lt_1 : w.heap.size < w2.heap.size := World.block_lt_of_cell? w2 _ c0_0_0
  clear lt_2
  have lt_2 : w.heap.size + 1 < w2.heap.size := World.block_lt_of_cell? w2 _ c0_1_0
  clear lt_3
  have lt_3 : w.heap.size + 1 + 1 < w2.heap.size := World.block_lt_of_cell? w2 _ c0_2_0
  clear hx2
  go_upto_region 7 with fail
  generalize hw_ : (w2.alloc (.cells #[.int .i64 X.1, .int .i64 X.2.1, .string X.2.2.1] 23)) = w9
  have hx9 : Ext (w2.alloc (.cells #[.int .i64 X.1, .int .i64 X.2.1, .string X.2.2.1] 23)) w9 := by rw [hw_]; exact Ext.refl _
  clear hw_
  replace t := hid (There.ext (There.ext t.out ((Ext.refl _).alloc_right _)) hx9)
  replace c0_0_0 := hx9.cell (cell_alloc c0_0_0 _)
  replace c0_0_1 := hx9.cell (cell_alloc c0_0_1 _)
  replace c0_0_2 := hx9.cell (cell_alloc c0_0_2 _)
  replace c0_1_0 := hx9.cell (cell_alloc c0_1_0 _)
  replace c0_1_1 := hx9.cell (cell_alloc c0_1_1 _)
  replace c0_1_2 := hx9.cell (cell_alloc c0_1_2 _)
  replace c0_2_0 := hx9.cell (cell_alloc c0_2_0 _)
  replace c0_2_1 := hx9.cell (cell_alloc c0_2_1 _)
  replace c0_2_2 := hx9.cell (cell_alloc c0_2_2 _)
  have c2_0_0 : w9.cell? ⟨w2.heap.size, 0, none⟩ = some (.int .i64 X.1) := hx9.cell (by go_simp)
  have c2_0_1 : w9.cell? ⟨w2.heap.size, 1, none⟩ = some (.int .i64 X.2.1) := hx9.cell (by go_simp)
  have c2_0_2 : w9.cell? ⟨w2.heap.size, 2, none⟩ = some (.string X.2.2.1) := hx9.cell (by go_simp)
  replace hE := hid (Ext.trans (hE.out.alloc_right _) hx9)
  clear lt_1
  have lt_1 : w.heap.size < w9.heap.size := World.block_lt_of_cell? w9 _ c0_0_0
  clear lt_2
  have lt_2 : w.heap.size + 1 < w9.heap.size := World.block_lt_of_cell? w9 _ c0_1_0
  clear lt_3
  have lt_3 : w.heap.size + 1 + 1 < w9.heap.size := World.block_lt_of_cell? w9 _ c0_2_0
  have lt_4 : w2.heap.size < w9.heap.size := World.block_lt_of_cell? w9 _ c2_0_0
  clear hx9
  have p0 := t.out.cell (o := 0) (by omega)
  have f0 := t.out.free (o := 0) (by omega)
  have p1 := t.out.cell (o := 1) (by omega)
  have f1 := t.out.free (o := 1) (by omega)
  have p2 := t.out.cell (o := 2) (by omega)
  have f2 := t.out.free (o := 2) (by omega)
  have kk := hid (put3 t.out (.int .i64 X.1) (.int .i64 X.2.1) (.string X.2.2.1))
  have Fin := hid (((hE.out.set (p := ⟨w.heap.size + 1 + 1, 0, none⟩) (show w.heap.size ≤ w.heap.size + 1 + 1 by omega) (.int .i64 X.1)).set (p := ⟨w.heap.size + 1 + 1, 1, none⟩) (show w.heap.size ≤ w.heap.size + 1 + 1 by omega) (.int .i64 X.2.1)).set (p := ⟨w.heap.size + 1 + 1, 2, none⟩) (show w.heap.size ≤ w.heap.size + 1 + 1 by omega) (.string X.2.2.1))
  clear t
  clear c0_2_0 c0_2_1 c0_2_2
  go_wp2
  obtain ⟨k0, k1, k2⟩ := kk.out
  exact bodyPost_ret (v := .tuple #[.agg #[.int .i64 X.1, .int .i64 X.2.1, .string X.2.2.1], .int .i64 X.2.2.2, .int .i64 0]) (by simp [results, Tryd.results18, go_sem, k0, k1, k2]) rfl ⟨rfl, Fin.out⟩
set_option maxRecDepth 100000 in
set_option maxHeartbeats 2000000 in
theorem rDo_2 (k n : Int) (s : ByteArray) (k' n' : Int) (s' : ByteArray) (w : World) (h1 : Bd k n s) (h2 : Bd k' n' s') (hk : k ≠ 0) (hk' : k' ≠ 0) : Calls Tryd.prog 18 #[.int .i64 2, vV k n s, vV k' n' s'] w (GiveD (wholeR mulR k n k' n') w) := by
  have hb := bd_both h1 h2
  have hn := hid (fun w => Done_2 k n s k' n' s' w h1 h2 hk hk')
  unfold vV
  clear hk hk'
  generalize wholeR mulR k n k' n' = X at *
  go_enter Tryd.func18, Tryd.ntmps18
  go_wp2_with fail
  refine (rBoth_any k n s k' n' s' _).mono ?_
  rintro e w1 ⟨rfl, hx1⟩
  have t := hid (There.ext (There.newb ((w.alloc (.cells #[.int .i64 k, .int .i64 n, .string s] 23)).alloc (.cells #[.int .i64 k', .int .i64 n', .string s'] 23)) #[.int .i64 0, .int .i64 0, .string { data := #[] }] 23 (n := 3) (b := w.heap.size + 1 + 1) (by simp) (by decide)) hx1)
  have c0_0_0 : w1.cell? ⟨w.heap.size, 0, none⟩ = some (.int .i64 k) := hx1.cell (by go_simp)
  have c0_0_1 : w1.cell? ⟨w.heap.size, 1, none⟩ = some (.int .i64 n) := hx1.cell (by go_simp)
  have c0_0_2 : w1.cell? ⟨w.heap.size, 2, none⟩ = some (.string s) := hx1.cell (by go_simp)
  have c0_1_0 : w1.cell? ⟨w.heap.size + 1, 0, none⟩ = some (.int .i64 k') := hx1.cell (by go_simp)
  have c0_1_1 : w1.cell? ⟨w.heap.size + 1, 1, none⟩ = some (.int .i64 n') := hx1.cell (by go_simp)
  have c0_1_2 : w1.cell? ⟨w.heap.size + 1, 2, none⟩ = some (.string s') := hx1.cell (by go_simp)
  have c0_2_0 : w1.cell? ⟨w.heap.size + 1 + 1, 0, none⟩ = some (.int .i64 0) := hx1.cell (by go_simp)
  have c0_2_1 : w1.cell? ⟨w.heap.size + 1 + 1, 1, none⟩ = some (.int .i64 0) := hx1.cell (by go_simp)
  have c0_2_2 : w1.cell? ⟨w.heap.size + 1 + 1, 2, none⟩ = some (.string { data := #[] }) := hx1.cell (by go_simp)
  have hE := hid (Ext.trans ((((Ext.refl w).alloc_right _).alloc_right _).alloc_right _) hx1)
  have lt_1 : w.heap.size < w1.heap.size := World.block_lt_of_cell? w1 _ c0_0_0
  have lt_2 : w.heap.size + 1 < w1.heap.size := World.block_lt_of_cell? w1 _ c0_1_0
  have lt_3 : w.heap.size + 1 + 1 < w1.heap.size := World.block_lt_of_cell? w1 _ c0_2_0
  clear hx1
  rw [hb]
  go_wp2_with fail
  refine (hn.out _).mono ?_
  rintro e w2 ⟨rfl, hx2⟩
  replace t := hid (There.ext t.out hx2)
  replace c0_0_0 := hx2.cell c0_0_0
  replace c0_0_1 := hx2.cell c0_0_1
  replace c0_0_2 := hx2.cell c0_0_2
  replace c0_1_0 := hx2.cell c0_1_0
  replace c0_1_1 := hx2.cell c0_1_1
  replace c0_1_2 := hx2.cell c0_1_2
  replace c0_2_0 := hx2.cell c0_2_0
  replace c0_2_1 := hx2.cell c0_2_1
  replace c0_2_2 := hx2.cell c0_2_2
  replace hE := hid (Ext.trans hE.out hx2)
  clear lt_1
  have lt_1 : w.heap.size < w2.heap.size := World.block_lt_of_cell? w2 _ c0_0_0
  clear lt_2
  have lt_2 : w.heap.size + 1 < w2.heap.size := World.block_lt_of_cell? w2 _ c0_1_0
  clear lt_3
  have lt_3 : w.heap.size + 1 + 1 < w2.heap.size := World.block_lt_of_cell? w2 _ c0_2_0
  clear hx2
  go_upto_region 7 with fail
  generalize hw_ : (w2.alloc (.cells #[.int .i64 X.1, .int .i64 X.2.1, .string X.2.2.1] 23)) = w9
  have hx9 : Ext (w2.alloc (.cells #[.int .i64 X.1, .int .i64 X.2.1, .string X.2.2.1] 23)) w9 := by rw [hw_]; exact Ext.refl _
  clear hw_
  replace t := hid (There.ext (There.ext t.out ((Ext.refl _).alloc_right _)) hx9)
  replace c0_0_0 := hx9.cell (cell_alloc c0_0_0 _)
  replace c0_0_1 := hx9.cell (cell_alloc c0_0_1 _)
  replace c0_0_2 := hx9.cell (cell_alloc c0_0_2 _)
  replace c0_1_0 := hx9.cell (cell_alloc c0_1_0 _)
  replace c0_1_1 := hx9.cell (cell_alloc c0_1_1 _)
  replace c0_1_2 := hx9.cell (cell_alloc c0_1_2 _)
  replace c0_2_0 := hx9.cell (cell_alloc c0_2_0 _)
  replace c0_2_1 := hx9.cell (cell_alloc c0_2_1 _)
  replace c0_2_2 := hx9.cell (cell_alloc c0_2_2 _)
  have c2_0_0 : w9.cell? ⟨w2.heap.size, 0, none⟩ = some (.int .i64 X.1) := hx9.cell (by go_simp)
  have c2_0_1 : w9.cell? ⟨w2.heap.size, 1, none⟩ = some (.int .i64 X.2.1) := hx9.cell (by go_simp)
  have c2_0_2 : w9.cell? ⟨w2.heap.size, 2, none⟩ = some (.string X.2.2.1) := hx9.cell (by go_simp)
  replace hE := hid (Ext.trans (hE.out.alloc_right _) hx9)
  clear lt_1
  have lt_1 : w.heap.size < w9.heap.size := World.block_lt_of_cell? w9 _ c0_0_0
  clear lt_2
  have lt_2 : w.heap.size + 1 < w9.heap.size := World.block_lt_of_cell? w9 _ c0_1_0
  clear lt_3
  have lt_3 : w.heap.size + 1 + 1 < w9.heap.size := World.block_lt_of_cell? w9 _ c0_2_0
  have lt_4 : w2.heap.size < w9.heap.size := World.block_lt_of_cell? w9 _ c2_0_0
  clear hx9
  have p0 := t.out.cell (o := 0) (by omega)
  have f0 := t.out.free (o := 0) (by omega)
  have p1 := t.out.cell (o := 1) (by omega)
  have f1 := t.out.free (o := 1) (by omega)
  have p2 := t.out.cell (o := 2) (by omega)
  have f2 := t.out.free (o := 2) (by omega)
  have kk := hid (put3 t.out (.int .i64 X.1) (.int .i64 X.2.1) (.string X.2.2.1))
  have Fin := hid (((hE.out.set (p := ⟨w.heap.size + 1 + 1, 0, none⟩) (show w.heap.size ≤ w.heap.size + 1 + 1 by omega) (.int .i64 X.1)).set (p := ⟨w.heap.size + 1 + 1, 1, none⟩) (show w.heap.size ≤ w.heap.size + 1 + 1 by omega) (.int .i64 X.2.1)).set (p := ⟨w.heap.size + 1 + 1, 2, none⟩) (show w.heap.size ≤ w.heap.size + 1 + 1 by omega) (.string X.2.2.1))
  clear t
  clear c0_2_0 c0_2_1 c0_2_2
  go_wp2
  obtain ⟨k0, k1, k2⟩ := kk.out
  exact bodyPost_ret (v := .tuple #[.agg #[.int .i64 X.1, .int .i64 X.2.1, .string X.2.2.1], .int .i64 X.2.2.2, .int .i64 0]) (by simp [results, Tryd.results18, go_sem, k0, k1, k2]) rfl ⟨rfl, Fin.out⟩
set_option maxRecDepth 100000 in
set_option maxHeartbeats 2000000 in
theorem rDo_3 (k n : Int) (s : ByteArray) (k' n' : Int) (s' : ByteArray) (w : World) (h1 : Bd k n s) (h2 : Bd k' n' s') (hk : k ≠ 0) (hk' : k' ≠ 0) : Calls Tryd.prog 18 #[.int .i64 3, vV k n s, vV k' n' s'] w (GiveD (wholeR divR k n k' n') w) := by
  have hb := bd_both h1 h2
  have hn := hid (fun w => Done_3 k n s k' n' s' w h1 h2 hk hk')
  unfold vV
  clear hk hk'
  generalize wholeR divR k n k' n' = X at *
  go_enter Tryd.func18, Tryd.ntmps18
  go_wp2_with fail
  refine (rBoth_any k n s k' n' s' _).mono ?_
  rintro e w1 ⟨rfl, hx1⟩
  have t := hid (There.ext (There.newb ((w.alloc (.cells #[.int .i64 k, .int .i64 n, .string s] 23)).alloc (.cells #[.int .i64 k', .int .i64 n', .string s'] 23)) #[.int .i64 0, .int .i64 0, .string { data := #[] }] 23 (n := 3) (b := w.heap.size + 1 + 1) (by simp) (by decide)) hx1)
  have c0_0_0 : w1.cell? ⟨w.heap.size, 0, none⟩ = some (.int .i64 k) := hx1.cell (by go_simp)
  have c0_0_1 : w1.cell? ⟨w.heap.size, 1, none⟩ = some (.int .i64 n) := hx1.cell (by go_simp)
  have c0_0_2 : w1.cell? ⟨w.heap.size, 2, none⟩ = some (.string s) := hx1.cell (by go_simp)
  have c0_1_0 : w1.cell? ⟨w.heap.size + 1, 0, none⟩ = some (.int .i64 k') := hx1.cell (by go_simp)
  have c0_1_1 : w1.cell? ⟨w.heap.size + 1, 1, none⟩ = some (.int .i64 n') := hx1.cell (by go_simp)
  have c0_1_2 : w1.cell? ⟨w.heap.size + 1, 2, none⟩ = some (.string s') := hx1.cell (by go_simp)
  have c0_2_0 : w1.cell? ⟨w.heap.size + 1 + 1, 0, none⟩ = some (.int .i64 0) := hx1.cell (by go_simp)
  have c0_2_1 : w1.cell? ⟨w.heap.size + 1 + 1, 1, none⟩ = some (.int .i64 0) := hx1.cell (by go_simp)
  have c0_2_2 : w1.cell? ⟨w.heap.size + 1 + 1, 2, none⟩ = some (.string { data := #[] }) := hx1.cell (by go_simp)
  have hE := hid (Ext.trans ((((Ext.refl w).alloc_right _).alloc_right _).alloc_right _) hx1)
  have lt_1 : w.heap.size < w1.heap.size := World.block_lt_of_cell? w1 _ c0_0_0
  have lt_2 : w.heap.size + 1 < w1.heap.size := World.block_lt_of_cell? w1 _ c0_1_0
  have lt_3 : w.heap.size + 1 + 1 < w1.heap.size := World.block_lt_of_cell? w1 _ c0_2_0
  clear hx1
  rw [hb]
  go_wp2_with fail
  refine (hn.out _).mono ?_
  rintro e w2 ⟨rfl, hx2⟩
  replace t := hid (There.ext t.out hx2)
  replace c0_0_0 := hx2.cell c0_0_0
  replace c0_0_1 := hx2.cell c0_0_1
  replace c0_0_2 := hx2.cell c0_0_2
  replace c0_1_0 := hx2.cell c0_1_0
  replace c0_1_1 := hx2.cell c0_1_1
  replace c0_1_2 := hx2.cell c0_1_2
  replace c0_2_0 := hx2.cell c0_2_0
  replace c0_2_1 := hx2.cell c0_2_1
  replace c0_2_2 := hx2.cell c0_2_2
  replace hE := hid (Ext.trans hE.out hx2)
  clear lt_1
  have lt_1 : w.heap.size < w2.heap.size := World.block_lt_of_cell? w2 _ c0_0_0
  clear lt_2
  have lt_2 : w.heap.size + 1 < w2.heap.size := World.block_lt_of_cell? w2 _ c0_1_0
  clear lt_3
  have lt_3 : w.heap.size + 1 + 1 < w2.heap.size := World.block_lt_of_cell? w2 _ c0_2_0
  clear hx2
  go_upto_region 7 with fail
  generalize hw_ : (w2.alloc (.cells #[.int .i64 X.1, .int .i64 X.2.1, .string X.2.2.1] 23)) = w9
  have hx9 : Ext (w2.alloc (.cells #[.int .i64 X.1, .int .i64 X.2.1, .string X.2.2.1] 23)) w9 := by rw [hw_]; exact Ext.refl _
  clear hw_
  replace t := hid (There.ext (There.ext t.out ((Ext.refl _).alloc_right _)) hx9)
  replace c0_0_0 := hx9.cell (cell_alloc c0_0_0 _)
  replace c0_0_1 := hx9.cell (cell_alloc c0_0_1 _)
  replace c0_0_2 := hx9.cell (cell_alloc c0_0_2 _)
  replace c0_1_0 := hx9.cell (cell_alloc c0_1_0 _)
  replace c0_1_1 := hx9.cell (cell_alloc c0_1_1 _)
  replace c0_1_2 := hx9.cell (cell_alloc c0_1_2 _)
  replace c0_2_0 := hx9.cell (cell_alloc c0_2_0 _)
  replace c0_2_1 := hx9.cell (cell_alloc c0_2_1 _)
  replace c0_2_2 := hx9.cell (cell_alloc c0_2_2 _)
  have c2_0_0 : w9.cell? ⟨w2.heap.size, 0, none⟩ = some (.int .i64 X.1) := hx9.cell (by go_simp)
  have c2_0_1 : w9.cell? ⟨w2.heap.size, 1, none⟩ = some (.int .i64 X.2.1) := hx9.cell (by go_simp)
  have c2_0_2 : w9.cell? ⟨w2.heap.size, 2, none⟩ = some (.string X.2.2.1) := hx9.cell (by go_simp)
  replace hE := hid (Ext.trans (hE.out.alloc_right _) hx9)
  clear lt_1
  have lt_1 : w.heap.size < w9.heap.size := World.block_lt_of_cell? w9 _ c0_0_0
  clear lt_2
  have lt_2 : w.heap.size + 1 < w9.heap.size := World.block_lt_of_cell? w9 _ c0_1_0
  clear lt_3
  have lt_3 : w.heap.size + 1 + 1 < w9.heap.size := World.block_lt_of_cell? w9 _ c0_2_0
  have lt_4 : w2.heap.size < w9.heap.size := World.block_lt_of_cell? w9 _ c2_0_0
  clear hx9
  have p0 := t.out.cell (o := 0) (by omega)
  have f0 := t.out.free (o := 0) (by omega)
  have p1 := t.out.cell (o := 1) (by omega)
  have f1 := t.out.free (o := 1) (by omega)
  have p2 := t.out.cell (o := 2) (by omega)
  have f2 := t.out.free (o := 2) (by omega)
  have kk := hid (put3 t.out (.int .i64 X.1) (.int .i64 X.2.1) (.string X.2.2.1))
  have Fin := hid (((hE.out.set (p := ⟨w.heap.size + 1 + 1, 0, none⟩) (show w.heap.size ≤ w.heap.size + 1 + 1 by omega) (.int .i64 X.1)).set (p := ⟨w.heap.size + 1 + 1, 1, none⟩) (show w.heap.size ≤ w.heap.size + 1 + 1 by omega) (.int .i64 X.2.1)).set (p := ⟨w.heap.size + 1 + 1, 2, none⟩) (show w.heap.size ≤ w.heap.size + 1 + 1 by omega) (.string X.2.2.1))
  clear t
  clear c0_2_0 c0_2_1 c0_2_2
  go_wp2
  obtain ⟨k0, k1, k2⟩ := kk.out
  exact bodyPost_ret (v := .tuple #[.agg #[.int .i64 X.1, .int .i64 X.2.1, .string X.2.2.1], .int .i64 X.2.2.2, .int .i64 0]) (by simp [results, Tryd.results18, go_sem, k0, k1, k2]) rfl ⟨rfl, Fin.out⟩
set_option maxRecDepth 100000 in
set_option maxHeartbeats 2000000 in
theorem rDo_4 (k n : Int) (s : ByteArray) (k' n' : Int) (s' : ByteArray) (w : World) (h1 : Bd k n s) (h2 : Bd k' n' s') (hk : k ≠ 0) (hk' : k' ≠ 0) : Calls Tryd.prog 18 #[.int .i64 4, vV k n s, vV k' n' s'] w (GiveD (wholeR modR k n k' n') w) := by
  have hb := bd_both h1 h2
  have hn := hid (fun w => Done_4 k n s k' n' s' w h1 h2 hk hk')
  unfold vV
  clear hk hk'
  generalize wholeR modR k n k' n' = X at *
  go_enter Tryd.func18, Tryd.ntmps18
  go_wp2_with fail
  refine (rBoth_any k n s k' n' s' _).mono ?_
  rintro e w1 ⟨rfl, hx1⟩
  have t := hid (There.ext (There.newb ((w.alloc (.cells #[.int .i64 k, .int .i64 n, .string s] 23)).alloc (.cells #[.int .i64 k', .int .i64 n', .string s'] 23)) #[.int .i64 0, .int .i64 0, .string { data := #[] }] 23 (n := 3) (b := w.heap.size + 1 + 1) (by simp) (by decide)) hx1)
  have c0_0_0 : w1.cell? ⟨w.heap.size, 0, none⟩ = some (.int .i64 k) := hx1.cell (by go_simp)
  have c0_0_1 : w1.cell? ⟨w.heap.size, 1, none⟩ = some (.int .i64 n) := hx1.cell (by go_simp)
  have c0_0_2 : w1.cell? ⟨w.heap.size, 2, none⟩ = some (.string s) := hx1.cell (by go_simp)
  have c0_1_0 : w1.cell? ⟨w.heap.size + 1, 0, none⟩ = some (.int .i64 k') := hx1.cell (by go_simp)
  have c0_1_1 : w1.cell? ⟨w.heap.size + 1, 1, none⟩ = some (.int .i64 n') := hx1.cell (by go_simp)
  have c0_1_2 : w1.cell? ⟨w.heap.size + 1, 2, none⟩ = some (.string s') := hx1.cell (by go_simp)
  have c0_2_0 : w1.cell? ⟨w.heap.size + 1 + 1, 0, none⟩ = some (.int .i64 0) := hx1.cell (by go_simp)
  have c0_2_1 : w1.cell? ⟨w.heap.size + 1 + 1, 1, none⟩ = some (.int .i64 0) := hx1.cell (by go_simp)
  have c0_2_2 : w1.cell? ⟨w.heap.size + 1 + 1, 2, none⟩ = some (.string { data := #[] }) := hx1.cell (by go_simp)
  have hE := hid (Ext.trans ((((Ext.refl w).alloc_right _).alloc_right _).alloc_right _) hx1)
  have lt_1 : w.heap.size < w1.heap.size := World.block_lt_of_cell? w1 _ c0_0_0
  have lt_2 : w.heap.size + 1 < w1.heap.size := World.block_lt_of_cell? w1 _ c0_1_0
  have lt_3 : w.heap.size + 1 + 1 < w1.heap.size := World.block_lt_of_cell? w1 _ c0_2_0
  clear hx1
  rw [hb]
  go_wp2_with fail
  refine (hn.out _).mono ?_
  rintro e w2 ⟨rfl, hx2⟩
  replace t := hid (There.ext t.out hx2)
  replace c0_0_0 := hx2.cell c0_0_0
  replace c0_0_1 := hx2.cell c0_0_1
  replace c0_0_2 := hx2.cell c0_0_2
  replace c0_1_0 := hx2.cell c0_1_0
  replace c0_1_1 := hx2.cell c0_1_1
  replace c0_1_2 := hx2.cell c0_1_2
  replace c0_2_0 := hx2.cell c0_2_0
  replace c0_2_1 := hx2.cell c0_2_1
  replace c0_2_2 := hx2.cell c0_2_2
  replace hE := hid (Ext.trans hE.out hx2)
  clear lt_1
  have lt_1 : w.heap.size < w2.heap.size := World.block_lt_of_cell? w2 _ c0_0_0
  clear lt_2
  have lt_2 : w.heap.size + 1 < w2.heap.size := World.block_lt_of_cell? w2 _ c0_1_0
  clear lt_3
  have lt_3 : w.heap.size + 1 + 1 < w2.heap.size := World.block_lt_of_cell? w2 _ c0_2_0
  clear hx2
  go_upto_region 7 with fail
  generalize hw_ : (w2.alloc (.cells #[.int .i64 X.1, .int .i64 X.2.1, .string X.2.2.1] 23)) = w9
  have hx9 : Ext (w2.alloc (.cells #[.int .i64 X.1, .int .i64 X.2.1, .string X.2.2.1] 23)) w9 := by rw [hw_]; exact Ext.refl _
  clear hw_
  replace t := hid (There.ext (There.ext t.out ((Ext.refl _).alloc_right _)) hx9)
  replace c0_0_0 := hx9.cell (cell_alloc c0_0_0 _)
  replace c0_0_1 := hx9.cell (cell_alloc c0_0_1 _)
  replace c0_0_2 := hx9.cell (cell_alloc c0_0_2 _)
  replace c0_1_0 := hx9.cell (cell_alloc c0_1_0 _)
  replace c0_1_1 := hx9.cell (cell_alloc c0_1_1 _)
  replace c0_1_2 := hx9.cell (cell_alloc c0_1_2 _)
  replace c0_2_0 := hx9.cell (cell_alloc c0_2_0 _)
  replace c0_2_1 := hx9.cell (cell_alloc c0_2_1 _)
  replace c0_2_2 := hx9.cell (cell_alloc c0_2_2 _)
  have c2_0_0 : w9.cell? ⟨w2.heap.size, 0, none⟩ = some (.int .i64 X.1) := hx9.cell (by go_simp)
  have c2_0_1 : w9.cell? ⟨w2.heap.size, 1, none⟩ = some (.int .i64 X.2.1) := hx9.cell (by go_simp)
  have c2_0_2 : w9.cell? ⟨w2.heap.size, 2, none⟩ = some (.string X.2.2.1) := hx9.cell (by go_simp)
  replace hE := hid (Ext.trans (hE.out.alloc_right _) hx9)
  clear lt_1
  have lt_1 : w.heap.size < w9.heap.size := World.block_lt_of_cell? w9 _ c0_0_0
  clear lt_2
  have lt_2 : w.heap.size + 1 < w9.heap.size := World.block_lt_of_cell? w9 _ c0_1_0
  clear lt_3
  have lt_3 : w.heap.size + 1 + 1 < w9.heap.size := World.block_lt_of_cell? w9 _ c0_2_0
  have lt_4 : w2.heap.size < w9.heap.size := World.block_lt_of_cell? w9 _ c2_0_0
  clear hx9
  have p0 := t.out.cell (o := 0) (by omega)
  have f0 := t.out.free (o := 0) (by omega)
  have p1 := t.out.cell (o := 1) (by omega)
  have f1 := t.out.free (o := 1) (by omega)
  have p2 := t.out.cell (o := 2) (by omega)
  have f2 := t.out.free (o := 2) (by omega)
  have kk := hid (put3 t.out (.int .i64 X.1) (.int .i64 X.2.1) (.string X.2.2.1))
  have Fin := hid (((hE.out.set (p := ⟨w.heap.size + 1 + 1, 0, none⟩) (show w.heap.size ≤ w.heap.size + 1 + 1 by omega) (.int .i64 X.1)).set (p := ⟨w.heap.size + 1 + 1, 1, none⟩) (show w.heap.size ≤ w.heap.size + 1 + 1 by omega) (.int .i64 X.2.1)).set (p := ⟨w.heap.size + 1 + 1, 2, none⟩) (show w.heap.size ≤ w.heap.size + 1 + 1 by omega) (.string X.2.2.1))
  clear t
  clear c0_2_0 c0_2_1 c0_2_2
  go_wp2
  obtain ⟨k0, k1, k2⟩ := kk.out
  exact bodyPost_ret (v := .tuple #[.agg #[.int .i64 X.1, .int .i64 X.2.1, .string X.2.2.1], .int .i64 X.2.2.2, .int .i64 0]) (by simp [results, Tryd.results18, go_sem, k0, k1, k2]) rfl ⟨rfl, Fin.out⟩
set_option maxRecDepth 100000 in
set_option maxHeartbeats 2000000 in
theorem rDo_5 (k n : Int) (s : ByteArray) (k' n' : Int) (s' : ByteArray) (w : World) (h1 : Bd k n s) (h2 : Bd k' n' s') (hk : k ≠ 0) (hk' : k' ≠ 0) : Calls Tryd.prog 18 #[.int .i64 5, vV k n s, vV k' n' s'] w (GiveD (wholeR powR k n k' n') w) := by
  have hb := bd_both h1 h2
  have hn := hid (fun w => Done_5 k n s k' n' s' w h1 h2 hk hk')
  unfold vV
  clear hk hk'
  generalize wholeR powR k n k' n' = X at *
  go_enter Tryd.func18, Tryd.ntmps18
  go_wp2_with fail
  refine (rBoth_any k n s k' n' s' _).mono ?_
  rintro e w1 ⟨rfl, hx1⟩
  have t := hid (There.ext (There.newb ((w.alloc (.cells #[.int .i64 k, .int .i64 n, .string s] 23)).alloc (.cells #[.int .i64 k', .int .i64 n', .string s'] 23)) #[.int .i64 0, .int .i64 0, .string { data := #[] }] 23 (n := 3) (b := w.heap.size + 1 + 1) (by simp) (by decide)) hx1)
  have c0_0_0 : w1.cell? ⟨w.heap.size, 0, none⟩ = some (.int .i64 k) := hx1.cell (by go_simp)
  have c0_0_1 : w1.cell? ⟨w.heap.size, 1, none⟩ = some (.int .i64 n) := hx1.cell (by go_simp)
  have c0_0_2 : w1.cell? ⟨w.heap.size, 2, none⟩ = some (.string s) := hx1.cell (by go_simp)
  have c0_1_0 : w1.cell? ⟨w.heap.size + 1, 0, none⟩ = some (.int .i64 k') := hx1.cell (by go_simp)
  have c0_1_1 : w1.cell? ⟨w.heap.size + 1, 1, none⟩ = some (.int .i64 n') := hx1.cell (by go_simp)
  have c0_1_2 : w1.cell? ⟨w.heap.size + 1, 2, none⟩ = some (.string s') := hx1.cell (by go_simp)
  have c0_2_0 : w1.cell? ⟨w.heap.size + 1 + 1, 0, none⟩ = some (.int .i64 0) := hx1.cell (by go_simp)
  have c0_2_1 : w1.cell? ⟨w.heap.size + 1 + 1, 1, none⟩ = some (.int .i64 0) := hx1.cell (by go_simp)
  have c0_2_2 : w1.cell? ⟨w.heap.size + 1 + 1, 2, none⟩ = some (.string { data := #[] }) := hx1.cell (by go_simp)
  have hE := hid (Ext.trans ((((Ext.refl w).alloc_right _).alloc_right _).alloc_right _) hx1)
  have lt_1 : w.heap.size < w1.heap.size := World.block_lt_of_cell? w1 _ c0_0_0
  have lt_2 : w.heap.size + 1 < w1.heap.size := World.block_lt_of_cell? w1 _ c0_1_0
  have lt_3 : w.heap.size + 1 + 1 < w1.heap.size := World.block_lt_of_cell? w1 _ c0_2_0
  clear hx1
  rw [hb]
  go_wp2_with fail
  refine (hn.out _).mono ?_
  rintro e w2 ⟨rfl, hx2⟩
  replace t := hid (There.ext t.out hx2)
  replace c0_0_0 := hx2.cell c0_0_0
  replace c0_0_1 := hx2.cell c0_0_1
  replace c0_0_2 := hx2.cell c0_0_2
  replace c0_1_0 := hx2.cell c0_1_0
  replace c0_1_1 := hx2.cell c0_1_1
  replace c0_1_2 := hx2.cell c0_1_2
  replace c0_2_0 := hx2.cell c0_2_0
  replace c0_2_1 := hx2.cell c0_2_1
  replace c0_2_2 := hx2.cell c0_2_2
  replace hE := hid (Ext.trans hE.out hx2)
  clear lt_1
  have lt_1 : w.heap.size < w2.heap.size := World.block_lt_of_cell? w2 _ c0_0_0
  clear lt_2
  have lt_2 : w.heap.size + 1 < w2.heap.size := World.block_lt_of_cell? w2 _ c0_1_0
  clear lt_3
  have lt_3 : w.heap.size + 1 + 1 < w2.heap.size := World.block_lt_of_cell? w2 _ c0_2_0
  clear hx2
  go_upto_region 7 with fail
  generalize hw_ : (w2.alloc (.cells #[.int .i64 X.1, .int .i64 X.2.1, .string X.2.2.1] 23)) = w9
  have hx9 : Ext (w2.alloc (.cells #[.int .i64 X.1, .int .i64 X.2.1, .string X.2.2.1] 23)) w9 := by rw [hw_]; exact Ext.refl _
  clear hw_
  replace t := hid (There.ext (There.ext t.out ((Ext.refl _).alloc_right _)) hx9)
  replace c0_0_0 := hx9.cell (cell_alloc c0_0_0 _)
  replace c0_0_1 := hx9.cell (cell_alloc c0_0_1 _)
  replace c0_0_2 := hx9.cell (cell_alloc c0_0_2 _)
  replace c0_1_0 := hx9.cell (cell_alloc c0_1_0 _)
  replace c0_1_1 := hx9.cell (cell_alloc c0_1_1 _)
  replace c0_1_2 := hx9.cell (cell_alloc c0_1_2 _)
  replace c0_2_0 := hx9.cell (cell_alloc c0_2_0 _)
  replace c0_2_1 := hx9.cell (cell_alloc c0_2_1 _)
  replace c0_2_2 := hx9.cell (cell_alloc c0_2_2 _)
  have c2_0_0 : w9.cell? ⟨w2.heap.size, 0, none⟩ = some (.int .i64 X.1) := hx9.cell (by go_simp)
  have c2_0_1 : w9.cell? ⟨w2.heap.size, 1, none⟩ = some (.int .i64 X.2.1) := hx9.cell (by go_simp)
  have c2_0_2 : w9.cell? ⟨w2.heap.size, 2, none⟩ = some (.string X.2.2.1) := hx9.cell (by go_simp)
  replace hE := hid (Ext.trans (hE.out.alloc_right _) hx9)
  clear lt_1
  have lt_1 : w.heap.size < w9.heap.size := World.block_lt_of_cell? w9 _ c0_0_0
  clear lt_2
  have lt_2 : w.heap.size + 1 < w9.heap.size := World.block_lt_of_cell? w9 _ c0_1_0
  clear lt_3
  have lt_3 : w.heap.size + 1 + 1 < w9.heap.size := World.block_lt_of_cell? w9 _ c0_2_0
  have lt_4 : w2.heap.size < w9.heap.size := World.block_lt_of_cell? w9 _ c2_0_0
  clear hx9
  have p0 := t.out.cell (o := 0) (by omega)
  have f0 := t.out.free (o := 0) (by omega)
  have p1 := t.out.cell (o := 1) (by omega)
  have f1 := t.out.free (o := 1) (by omega)
  have p2 := t.out.cell (o := 2) (by omega)
  have f2 := t.out.free (o := 2) (by omega)
  have kk := hid (put3 t.out (.int .i64 X.1) (.int .i64 X.2.1) (.string X.2.2.1))
  have Fin := hid (((hE.out.set (p := ⟨w.heap.size + 1 + 1, 0, none⟩) (show w.heap.size ≤ w.heap.size + 1 + 1 by omega) (.int .i64 X.1)).set (p := ⟨w.heap.size + 1 + 1, 1, none⟩) (show w.heap.size ≤ w.heap.size + 1 + 1 by omega) (.int .i64 X.2.1)).set (p := ⟨w.heap.size + 1 + 1, 2, none⟩) (show w.heap.size ≤ w.heap.size + 1 + 1 by omega) (.string X.2.2.1))
  clear t
  clear c0_2_0 c0_2_1 c0_2_2
  go_wp2
  obtain ⟨k0, k1, k2⟩ := kk.out
  exact bodyPost_ret (v := .tuple #[.agg #[.int .i64 X.1, .int .i64 X.2.1, .string X.2.2.1], .int .i64 X.2.2.2, .int .i64 0]) (by simp [results, Tryd.results18, go_sem, k0, k1, k2]) rfl ⟨rfl, Fin.out⟩
end Go.Proofs.YtkjcfnmbnddhjaaDoor
