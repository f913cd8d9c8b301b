/-
  What the reference does with two values.
-/
import Derived.Test.YtkjcfnmbnddhjaaDoorVc8
namespace Go.Proofs.YtkjcfnmbnddhjaaDoor
open Go.RowKit
set_option linter.unusedVariables false
set_option linter.unusedSimpArgs false
theorem bd_kind {k n : Int} {s : ByteArray} (h : Bd k n s) (h0 : k ≠ 0) : k = 1 ∨ k = 2 ∨ k = 3 ∨ k = 4 := by
  have hv := h.1
  by_cases a : k = 1
  · exact Or.inl a
  by_cases b : k = 2
  · exact Or.inr (Or.inl b)
  by_cases c : k = 3
  · exact Or.inr (Or.inr (Or.inl c))
  by_cases d : k = 4
  · exact Or.inr (Or.inr (Or.inr d))
  rw [isV_no h0 a b c d] at hv
  cases hv
set_option maxRecDepth 100000 in
set_option maxHeartbeats 2000000 in
theorem Done_0 (k n : Int) (s : ByteArray) (k' n' : Int) (s' : ByteArray) (w : World) (h1 : Bd k n s) (h2 : Bd k' n' s') (hk : k ≠ 0) (hk' : k' ≠ 0) : Calls Tryd.prog 68 #[.int .i64 0, vV k n s, vV k' n' s'] w (GiveP (addR k n s k' n' s') w) := by
  have e0 : (k == 0) = false := by simpa using hk
  have e0' : (k' == 0) = false := by simpa using hk'
  unfold vV
  by_cases c1 : k = 2 ∧ k' = 2
  · obtain ⟨rfl, rfl⟩ := c1
    rw [show addR 2 n s 2 n' s' = numR (n + n') by unfold addR; rw [if_pos ⟨rfl, rfl⟩]]
    go_enter Tryd.func68, Tryd.ntmps68
    go_upto_region 1 with fail
    generalize hw_ : (((w.alloc (.cells #[.int .i64 2, .int .i64 n, .string s] 23)).alloc (.cells #[.int .i64 2, .int .i64 n', .string s'] 23)).alloc (.cells #[.int .i64 0, .int .i64 0, .string { data := #[] }] 23)) = w1
    have hx1 : Ext (((w.alloc (.cells #[.int .i64 2, .int .i64 n, .string s] 23)).alloc (.cells #[.int .i64 2, .int .i64 n', .string s'] 23)).alloc (.cells #[.int .i64 0, .int .i64 0, .string { data := #[] }] 23)) w1 := by rw [hw_]; exact Ext.refl _
    clear hw_
    have t := hid (There.ext (There.newb ((w.alloc (.cells #[.int .i64 2, .int .i64 n, .string s] 23)).alloc (.cells #[.int .i64 2, .int .i64 n', .string s'] 23)) #[.int .i64 0, .int .i64 0, .string { data := #[] }] 23 (n := 3) (b := w.heap.size + 1 + 1) (by simp) (by decide)) hx1)
    have c0_0_0 : w1.cell? ⟨w.heap.size, 0, none⟩ = some (.int .i64 2) := hx1.cell (by go_simp)
    have c0_0_1 : w1.cell? ⟨w.heap.size, 1, none⟩ = some (.int .i64 n) := hx1.cell (by go_simp)
    have c0_0_2 : w1.cell? ⟨w.heap.size, 2, none⟩ = some (.string s) := hx1.cell (by go_simp)
    have c0_1_0 : w1.cell? ⟨w.heap.size + 1, 0, none⟩ = some (.int .i64 2) := hx1.cell (by go_simp)
    have c0_1_1 : w1.cell? ⟨w.heap.size + 1, 1, none⟩ = some (.int .i64 n') := hx1.cell (by go_simp)
    have c0_1_2 : w1.cell? ⟨w.heap.size + 1, 2, none⟩ = some (.string s') := hx1.cell (by go_simp)
    have c0_2_0 : w1.cell? ⟨w.heap.size + 1 + 1, 0, none⟩ = some (.int .i64 0) := hx1.cell (by go_simp)
    have c0_2_1 : w1.cell? ⟨w.heap.size + 1 + 1, 1, none⟩ = some (.int .i64 0) := hx1.cell (by go_simp)
    have c0_2_2 : w1.cell? ⟨w.heap.size + 1 + 1, 2, none⟩ = some (.string { data := #[] }) := hx1.cell (by go_simp)
    have hE := hid (Ext.trans ((((Ext.refl w).alloc_right _).alloc_right _).alloc_right _) hx1)
    have lt_1 : w.heap.size < w1.heap.size := World.block_lt_of_cell? w1 _ c0_0_0
    have lt_2 : w.heap.size + 1 < w1.heap.size := World.block_lt_of_cell? w1 _ c0_1_0
    have lt_3 : w.heap.size + 1 + 1 < w1.heap.size := World.block_lt_of_cell? w1 _ c0_2_0
    clear hx1
    go_wp2_with fail
    refine (numbers_0 n n' _ h1.num h2.num).mono ?_
    rintro e w2 ⟨rfl, hx2⟩
    replace t := hid (There.ext t.out hx2)
    replace c0_0_0 := hx2.cell c0_0_0
    replace c0_0_1 := hx2.cell c0_0_1
    replace c0_0_2 := hx2.cell c0_0_2
    replace c0_1_0 := hx2.cell c0_1_0
    replace c0_1_1 := hx2.cell c0_1_1
    replace c0_1_2 := hx2.cell c0_1_2
    replace c0_2_0 := hx2.cell c0_2_0
    replace c0_2_1 := hx2.cell c0_2_1
    replace c0_2_2 := hx2.cell c0_2_2
    replace hE := hid (Ext.trans hE.out hx2)
    clear lt_1
    have lt_1 : w.heap.size < w2.heap.size := World.block_lt_of_cell? w2 _ c0_0_0
    clear lt_2
    have lt_2 : w.heap.size + 1 < w2.heap.size := World.block_lt_of_cell? w2 _ c0_1_0
    clear lt_3
    have lt_3 : w.heap.size + 1 + 1 < w2.heap.size := World.block_lt_of_cell? w2 _ c0_2_0
    clear hx2
    have p0 := t.out.cell (o := 0) (by omega)
    have f0 := t.out.free (o := 0) (by omega)
    have p1 := t.out.cell (o := 1) (by omega)
    have f1 := t.out.free (o := 1) (by omega)
    have p2 := t.out.cell (o := 2) (by omega)
    have f2 := t.out.free (o := 2) (by omega)
    have kk := hid (put3 t.out (.int .i64 (numR (n + n')).1) (.int .i64 (numR (n + n')).2.1) (.string (numR (n + n')).2.2.1))
    have Fin := hid (((hE.out.set (p := ⟨w.heap.size + 1 + 1, 0, none⟩) (show w.heap.size ≤ w.heap.size + 1 + 1 by omega) (.int .i64 (numR (n + n')).1)).set (p := ⟨w.heap.size + 1 + 1, 1, none⟩) (show w.heap.size ≤ w.heap.size + 1 + 1 by omega) (.int .i64 (numR (n + n')).2.1)).set (p := ⟨w.heap.size + 1 + 1, 2, none⟩) (show w.heap.size ≤ w.heap.size + 1 + 1 by omega) (.string (numR (n + n')).2.2.1))
    clear t
    clear c0_2_0 c0_2_1 c0_2_2
    go_wp2
    obtain ⟨k0, k1, k2⟩ := kk.out
    exact bodyPost_ret (v := .tuple #[.agg #[.int .i64 (numR (n + n')).1, .int .i64 (numR (n + n')).2.1, .string (numR (n + n')).2.2.1], .int .i64 (numR (n + n')).2.2.2]) (by simp [results, Tryd.results68, go_sem, k0, k1, k2]) rfl ⟨rfl, Fin.out⟩
  by_cases c2 : k = 3 ∧ k' = 2
  · obtain ⟨rfl, rfl⟩ := c2
    rw [show addR 3 n s 2 n' s' = dayR n n' by unfold addR; rw [if_neg c1, if_pos ⟨rfl, rfl⟩]]
    go_enter Tryd.func68, Tryd.ntmps68
    go_upto_region 1 with fail
    generalize hw_ : (((w.alloc (.cells #[.int .i64 3, .int .i64 n, .string s] 23)).alloc (.cells #[.int .i64 2, .int .i64 n', .string s'] 23)).alloc (.cells #[.int .i64 0, .int .i64 0, .string { data := #[] }] 23)) = w1
    have hx1 : Ext (((w.alloc (.cells #[.int .i64 3, .int .i64 n, .string s] 23)).alloc (.cells #[.int .i64 2, .int .i64 n', .string s'] 23)).alloc (.cells #[.int .i64 0, .int .i64 0, .string { data := #[] }] 23)) w1 := by rw [hw_]; exact Ext.refl _
    clear hw_
    have t := hid (There.ext (There.newb ((w.alloc (.cells #[.int .i64 3, .int .i64 n, .string s] 23)).alloc (.cells #[.int .i64 2, .int .i64 n', .string s'] 23)) #[.int .i64 0, .int .i64 0, .string { data := #[] }] 23 (n := 3) (b := w.heap.size + 1 + 1) (by simp) (by decide)) hx1)
    have c0_0_0 : w1.cell? ⟨w.heap.size, 0, none⟩ = some (.int .i64 3) := hx1.cell (by go_simp)
    have c0_0_1 : w1.cell? ⟨w.heap.size, 1, none⟩ = some (.int .i64 n) := hx1.cell (by go_simp)
    have c0_0_2 : w1.cell? ⟨w.heap.size, 2, none⟩ = some (.string s) := hx1.cell (by go_simp)
    have c0_1_0 : w1.cell? ⟨w.heap.size + 1, 0, none⟩ = some (.int .i64 2) := hx1.cell (by go_simp)
    have c0_1_1 : w1.cell? ⟨w.heap.size + 1, 1, none⟩ = some (.int .i64 n') := hx1.cell (by go_simp)
    have c0_1_2 : w1.cell? ⟨w.heap.size + 1, 2, none⟩ = some (.string s') := hx1.cell (by go_simp)
    have c0_2_0 : w1.cell? ⟨w.heap.size + 1 + 1, 0, none⟩ = some (.int .i64 0) := hx1.cell (by go_simp)
    have c0_2_1 : w1.cell? ⟨w.heap.size + 1 + 1, 1, none⟩ = some (.int .i64 0) := hx1.cell (by go_simp)
    have c0_2_2 : w1.cell? ⟨w.heap.size + 1 + 1, 2, none⟩ = some (.string { data := #[] }) := hx1.cell (by go_simp)
    have hE := hid (Ext.trans ((((Ext.refl w).alloc_right _).alloc_right _).alloc_right _) hx1)
    have lt_1 : w.heap.size < w1.heap.size := World.block_lt_of_cell? w1 _ c0_0_0
    have lt_2 : w.heap.size + 1 < w1.heap.size := World.block_lt_of_cell? w1 _ c0_1_0
    have lt_3 : w.heap.size + 1 + 1 < w1.heap.size := World.block_lt_of_cell? w1 _ c0_2_0
    clear hx1
    go_wp2_with fail
    refine (others_add32 n s n' s' _ h1 h2).mono ?_
    rintro e w2 ⟨rfl, hx2⟩
    replace t := hid (There.ext t.out hx2)
    replace c0_0_0 := hx2.cell c0_0_0
    replace c0_0_1 := hx2.cell c0_0_1
    replace c0_0_2 := hx2.cell c0_0_2
    replace c0_1_0 := hx2.cell c0_1_0
    replace c0_1_1 := hx2.cell c0_1_1
    replace c0_1_2 := hx2.cell c0_1_2
    replace c0_2_0 := hx2.cell c0_2_0
    replace c0_2_1 := hx2.cell c0_2_1
    replace c0_2_2 := hx2.cell c0_2_2
    replace hE := hid (Ext.trans hE.out hx2)
    clear lt_1
    have lt_1 : w.heap.size < w2.heap.size := World.block_lt_of_cell? w2 _ c0_0_0
    clear lt_2
    have lt_2 : w.heap.size + 1 < w2.heap.size := World.block_lt_of_cell? w2 _ c0_1_0
    clear lt_3
    have lt_3 : w.heap.size + 1 + 1 < w2.heap.size := World.block_lt_of_cell? w2 _ c0_2_0
    clear hx2
    have p0 := t.out.cell (o := 0) (by omega)
    have f0 := t.out.free (o := 0) (by omega)
    have p1 := t.out.cell (o := 1) (by omega)
    have f1 := t.out.free (o := 1) (by omega)
    have p2 := t.out.cell (o := 2) (by omega)
    have f2 := t.out.free (o := 2) (by omega)
    have kk := hid (put3 t.out (.int .i64 (dayR n n').1) (.int .i64 (dayR n n').2.1) (.string (dayR n n').2.2.1))
    have Fin := hid (((hE.out.set (p := ⟨w.heap.size + 1 + 1, 0, none⟩) (show w.heap.size ≤ w.heap.size + 1 + 1 by omega) (.int .i64 (dayR n n').1)).set (p := ⟨w.heap.size + 1 + 1, 1, none⟩) (show w.heap.size ≤ w.heap.size + 1 + 1 by omega) (.int .i64 (dayR n n').2.1)).set (p := ⟨w.heap.size + 1 + 1, 2, none⟩) (show w.heap.size ≤ w.heap.size + 1 + 1 by omega) (.string (dayR n n').2.2.1))
    clear t
    clear c0_2_0 c0_2_1 c0_2_2
    go_wp2
    obtain ⟨k0, k1, k2⟩ := kk.out
    exact bodyPost_ret (v := .tuple #[.agg #[.int .i64 (dayR n n').1, .int .i64 (dayR n n').2.1, .string (dayR n n').2.2.1], .int .i64 (dayR n n').2.2.2]) (by simp [results, Tryd.results68, go_sem, k0, k1, k2]) rfl ⟨rfl, Fin.out⟩
  by_cases c3 : k = 2 ∧ k' = 3
  · obtain ⟨rfl, rfl⟩ := c3
    rw [show addR 2 n s 3 n' s' = dayR n' n by unfold addR; rw [if_neg c1, if_neg c2, if_pos ⟨rfl, rfl⟩]]
    go_enter Tryd.func68, Tryd.ntmps68
    go_upto_region 1 with fail
    generalize hw_ : (((w.alloc (.cells #[.int .i64 2, .int .i64 n, .string s] 23)).alloc (.cells #[.int .i64 3, .int .i64 n', .string s'] 23)).alloc (.cells #[.int .i64 0, .int .i64 0, .string { data := #[] }] 23)) = w1
    have hx1 : Ext (((w.alloc (.cells #[.int .i64 2, .int .i64 n, .string s] 23)).alloc (.cells #[.int .i64 3, .int .i64 n', .string s'] 23)).alloc (.cells #[.int .i64 0, .int .i64 0, .string { data := #[] }] 23)) w1 := by rw [hw_]; exact Ext.refl _
    clear hw_
    have t := hid (There.ext (There.newb ((w.alloc (.cells #[.int .i64 2, .int .i64 n, .string s] 23)).alloc (.cells #[.int .i64 3, .int .i64 n', .string s'] 23)) #[.int .i64 0, .int .i64 0, .string { data := #[] }] 23 (n := 3) (b := w.heap.size + 1 + 1) (by simp) (by decide)) hx1)
    have c0_0_0 : w1.cell? ⟨w.heap.size, 0, none⟩ = some (.int .i64 2) := hx1.cell (by go_simp)
    have c0_0_1 : w1.cell? ⟨w.heap.size, 1, none⟩ = some (.int .i64 n) := hx1.cell (by go_simp)
    have c0_0_2 : w1.cell? ⟨w.heap.size, 2, none⟩ = some (.string s) := hx1.cell (by go_simp)
    have c0_1_0 : w1.cell? ⟨w.heap.size + 1, 0, none⟩ = some (.int .i64 3) := hx1.cell (by go_simp)
    have c0_1_1 : w1.cell? ⟨w.heap.size + 1, 1, none⟩ = some (.int .i64 n') := hx1.cell (by go_simp)
    have c0_1_2 : w1.cell? ⟨w.heap.size + 1, 2, none⟩ = some (.string s') := hx1.cell (by go_simp)
    have c0_2_0 : w1.cell? ⟨w.heap.size + 1 + 1, 0, none⟩ = some (.int .i64 0) := hx1.cell (by go_simp)
    have c0_2_1 : w1.cell? ⟨w.heap.size + 1 + 1, 1, none⟩ = some (.int .i64 0) := hx1.cell (by go_simp)
    have c0_2_2 : w1.cell? ⟨w.heap.size + 1 + 1, 2, none⟩ = some (.string { data := #[] }) := hx1.cell (by go_simp)
    have hE := hid (Ext.trans ((((Ext.refl w).alloc_right _).alloc_right _).alloc_right _) hx1)
    have lt_1 : w.heap.size < w1.heap.size := World.block_lt_of_cell? w1 _ c0_0_0
    have lt_2 : w.heap.size + 1 < w1.heap.size := World.block_lt_of_cell? w1 _ c0_1_0
    have lt_3 : w.heap.size + 1 + 1 < w1.heap.size := World.block_lt_of_cell? w1 _ c0_2_0
    clear hx1
    go_wp2_with fail
    refine (others_add23 n s n' s' _ h1 h2).mono ?_
    rintro e w2 ⟨rfl, hx2⟩
    replace t := hid (There.ext t.out hx2)
    replace c0_0_0 := hx2.cell c0_0_0
    replace c0_0_1 := hx2.cell c0_0_1
    replace c0_0_2 := hx2.cell c0_0_2
    replace c0_1_0 := hx2.cell c0_1_0
    replace c0_1_1 := hx2.cell c0_1_1
    replace c0_1_2 := hx2.cell c0_1_2
    replace c0_2_0 := hx2.cell c0_2_0
    replace c0_2_1 := hx2.cell c0_2_1
    replace c0_2_2 := hx2.cell c0_2_2
    replace hE := hid (Ext.trans hE.out hx2)
    clear lt_1
    have lt_1 : w.heap.size < w2.heap.size := World.block_lt_of_cell? w2 _ c0_0_0
    clear lt_2
    have lt_2 : w.heap.size + 1 < w2.heap.size := World.block_lt_of_cell? w2 _ c0_1_0
    clear lt_3
    have lt_3 : w.heap.size + 1 + 1 < w2.heap.size := World.block_lt_of_cell? w2 _ c0_2_0
    clear hx2
    have p0 := t.out.cell (o := 0) (by omega)
    have f0 := t.out.free (o := 0) (by omega)
    have p1 := t.out.cell (o := 1) (by omega)
    have f1 := t.out.free (o := 1) (by omega)
    have p2 := t.out.cell (o := 2) (by omega)
    have f2 := t.out.free (o := 2) (by omega)
    have kk := hid (put3 t.out (.int .i64 (dayR n' n).1) (.int .i64 (dayR n' n).2.1) (.string (dayR n' n).2.2.1))
    have Fin := hid (((hE.out.set (p := ⟨w.heap.size + 1 + 1, 0, none⟩) (show w.heap.size ≤ w.heap.size + 1 + 1 by omega) (.int .i64 (dayR n' n).1)).set (p := ⟨w.heap.size + 1 + 1, 1, none⟩) (show w.heap.size ≤ w.heap.size + 1 + 1 by omega) (.int .i64 (dayR n' n).2.1)).set (p := ⟨w.heap.size + 1 + 1, 2, none⟩) (show w.heap.size ≤ w.heap.size + 1 + 1 by omega) (.string (dayR n' n).2.2.1))
    clear t
    clear c0_2_0 c0_2_1 c0_2_2
    go_wp2
    obtain ⟨k0, k1, k2⟩ := kk.out
    exact bodyPost_ret (v := .tuple #[.agg #[.int .i64 (dayR n' n).1, .int .i64 (dayR n' n).2.1, .string (dayR n' n).2.2.1], .int .i64 (dayR n' n).2.2.2]) (by simp [results, Tryd.results68, go_sem, k0, k1, k2]) rfl ⟨rfl, Fin.out⟩
  by_cases c4 : k = 4 ∧ k' = 4
  · obtain ⟨rfl, rfl⟩ := c4
    rw [show addR 4 n s 4 n' s' = textR (s ++ s') by unfold addR; rw [if_neg c1, if_neg c2, if_neg c3, if_pos ⟨rfl, rfl⟩]]
    go_enter Tryd.func68, Tryd.ntmps68
    go_upto_region 1 with fail
    generalize hw_ : (((w.alloc (.cells #[.int .i64 4, .int .i64 n, .string s] 23)).alloc (.cells #[.int .i64 4, .int .i64 n', .string s'] 23)).alloc (.cells #[.int .i64 0, .int .i64 0, .string { data := #[] }] 23)) = w1
    have hx1 : Ext (((w.alloc (.cells #[.int .i64 4, .int .i64 n, .string s] 23)).alloc (.cells #[.int .i64 4, .int .i64 n', .string s'] 23)).alloc (.cells #[.int .i64 0, .int .i64 0, .string { data := #[] }] 23)) w1 := by rw [hw_]; exact Ext.refl _
    clear hw_
    have t := hid (There.ext (There.newb ((w.alloc (.cells #[.int .i64 4, .int .i64 n, .string s] 23)).alloc (.cells #[.int .i64 4, .int .i64 n', .string s'] 23)) #[.int .i64 0, .int .i64 0, .string { data := #[] }] 23 (n := 3) (b := w.heap.size + 1 + 1) (by simp) (by decide)) hx1)
    have c0_0_0 : w1.cell? ⟨w.heap.size, 0, none⟩ = some (.int .i64 4) := hx1.cell (by go_simp)
    have c0_0_1 : w1.cell? ⟨w.heap.size, 1, none⟩ = some (.int .i64 n) := hx1.cell (by go_simp)
    have c0_0_2 : w1.cell? ⟨w.heap.size, 2, none⟩ = some (.string s) := hx1.cell (by go_simp)
    have c0_1_0 : w1.cell? ⟨w.heap.size + 1, 0, none⟩ = some (.int .i64 4) := hx1.cell (by go_simp)
    have c0_1_1 : w1.cell? ⟨w.heap.size + 1, 1, none⟩ = some (.int .i64 n') := hx1.cell (by go_simp)
    have c0_1_2 : w1.cell? ⟨w.heap.size + 1, 2, none⟩ = some (.string s') := hx1.cell (by go_simp)
    have c0_2_0 : w1.cell? ⟨w.heap.size + 1 + 1, 0, none⟩ = some (.int .i64 0) := hx1.cell (by go_simp)
    have c0_2_1 : w1.cell? ⟨w.heap.size + 1 + 1, 1, none⟩ = some (.int .i64 0) := hx1.cell (by go_simp)
    have c0_2_2 : w1.cell? ⟨w.heap.size + 1 + 1, 2, none⟩ = some (.string { data := #[] }) := hx1.cell (by go_simp)
    have hE := hid (Ext.trans ((((Ext.refl w).alloc_right _).alloc_right _).alloc_right _) hx1)
    have lt_1 : w.heap.size < w1.heap.size := World.block_lt_of_cell? w1 _ c0_0_0
    have lt_2 : w.heap.size + 1 < w1.heap.size := World.block_lt_of_cell? w1 _ c0_1_0
    have lt_3 : w.heap.size + 1 + 1 < w1.heap.size := World.block_lt_of_cell? w1 _ c0_2_0
    clear hx1
    go_wp2_with fail
    refine (others_add44 n s n' s' _ h1 h2).mono ?_
    rintro e w2 ⟨rfl, hx2⟩
    replace t := hid (There.ext t.out hx2)
    replace c0_0_0 := hx2.cell c0_0_0
    replace c0_0_1 := hx2.cell c0_0_1
    replace c0_0_2 := hx2.cell c0_0_2
    replace c0_1_0 := hx2.cell c0_1_0
    replace c0_1_1 := hx2.cell c0_1_1
    replace c0_1_2 := hx2.cell c0_1_2
    replace c0_2_0 := hx2.cell c0_2_0
    replace c0_2_1 := hx2.cell c0_2_1
    replace c0_2_2 := hx2.cell c0_2_2
    replace hE := hid (Ext.trans hE.out hx2)
    clear lt_1
    have lt_1 : w.heap.size < w2.heap.size := World.block_lt_of_cell? w2 _ c0_0_0
    clear lt_2
    have lt_2 : w.heap.size + 1 < w2.heap.size := World.block_lt_of_cell? w2 _ c0_1_0
    clear lt_3
    have lt_3 : w.heap.size + 1 + 1 < w2.heap.size := World.block_lt_of_cell? w2 _ c0_2_0
    clear hx2
    have p0 := t.out.cell (o := 0) (by omega)
    have f0 := t.out.free (o := 0) (by omega)
    have p1 := t.out.cell (o := 1) (by omega)
    have f1 := t.out.free (o := 1) (by omega)
    have p2 := t.out.cell (o := 2) (by omega)
    have f2 := t.out.free (o := 2) (by omega)
    have kk := hid (put3 t.out (.int .i64 (textR (s ++ s')).1) (.int .i64 (textR (s ++ s')).2.1) (.string (textR (s ++ s')).2.2.1))
    have Fin := hid (((hE.out.set (p := ⟨w.heap.size + 1 + 1, 0, none⟩) (show w.heap.size ≤ w.heap.size + 1 + 1 by omega) (.int .i64 (textR (s ++ s')).1)).set (p := ⟨w.heap.size + 1 + 1, 1, none⟩) (show w.heap.size ≤ w.heap.size + 1 + 1 by omega) (.int .i64 (textR (s ++ s')).2.1)).set (p := ⟨w.heap.size + 1 + 1, 2, none⟩) (show w.heap.size ≤ w.heap.size + 1 + 1 by omega) (.string (textR (s ++ s')).2.2.1))
    clear t
    clear c0_2_0 c0_2_1 c0_2_2
    go_wp2
    obtain ⟨k0, k1, k2⟩ := kk.out
    exact bodyPost_ret (v := .tuple #[.agg #[.int .i64 (textR (s ++ s')).1, .int .i64 (textR (s ++ s')).2.1, .string (textR (s ++ s')).2.2.1], .int .i64 (textR (s ++ s')).2.2.2]) (by simp [results, Tryd.results68, go_sem, k0, k1, k2]) rfl ⟨rfl, Fin.out⟩
  rw [show addR k n s k' n' s' = diedR 1 by unfold addR; rw [if_neg c1, if_neg c2, if_neg c3, if_neg c4]]
  have hno := hid (fun w => others_no 0 k n s k' n' s' w (bd_kind h1 hk) (bd_kind h2 hk') (by rintro ⟨_, h | h | h⟩ <;> simp_all) (by rintro ⟨h, _⟩; exact absurd h (by decide)))
  rcases Bool.eq_false_or_eq_true (k == 2) with g | g
  · have g2 : (k' == 2) = false := by
      have a : k = 2 := by simpa using g
      simpa using (show k' ≠ 2 from fun b => c1 ⟨a, b⟩)
    clear c1 c2 c3 c4 hk hk'
    go_enter Tryd.func68, Tryd.ntmps68
    go_upto_region 1 with fail
    generalize hw_ : (((w.alloc (.cells #[.int .i64 k, .int .i64 n, .string s] 23)).alloc (.cells #[.int .i64 k', .int .i64 n', .string s'] 23)).alloc (.cells #[.int .i64 0, .int .i64 0, .string { data := #[] }] 23)) = w1
    have hx1 : Ext (((w.alloc (.cells #[.int .i64 k, .int .i64 n, .string s] 23)).alloc (.cells #[.int .i64 k', .int .i64 n', .string s'] 23)).alloc (.cells #[.int .i64 0, .int .i64 0, .string { data := #[] }] 23)) w1 := by rw [hw_]; exact Ext.refl _
    clear hw_
    have t := hid (There.ext (There.newb ((w.alloc (.cells #[.int .i64 k, .int .i64 n, .string s] 23)).alloc (.cells #[.int .i64 k', .int .i64 n', .string s'] 23)) #[.int .i64 0, .int .i64 0, .string { data := #[] }] 23 (n := 3) (b := w.heap.size + 1 + 1) (by simp) (by decide)) hx1)
    have c0_0_0 : w1.cell? ⟨w.heap.size, 0, none⟩ = some (.int .i64 k) := hx1.cell (by go_simp)
    have c0_0_1 : w1.cell? ⟨w.heap.size, 1, none⟩ = some (.int .i64 n) := hx1.cell (by go_simp)
    have c0_0_2 : w1.cell? ⟨w.heap.size, 2, none⟩ = some (.string s) := hx1.cell (by go_simp)
    have c0_1_0 : w1.cell? ⟨w.heap.size + 1, 0, none⟩ = some (.int .i64 k') := hx1.cell (by go_simp)
    have c0_1_1 : w1.cell? ⟨w.heap.size + 1, 1, none⟩ = some (.int .i64 n') := hx1.cell (by go_simp)
    have c0_1_2 : w1.cell? ⟨w.heap.size + 1, 2, none⟩ = some (.string s') := hx1.cell (by go_simp)
    have c0_2_0 : w1.cell? ⟨w.heap.size + 1 + 1, 0, none⟩ = some (.int .i64 0) := hx1.cell (by go_simp)
    have c0_2_1 : w1.cell? ⟨w.heap.size + 1 + 1, 1, none⟩ = some (.int .i64 0) := hx1.cell (by go_simp)
    have c0_2_2 : w1.cell? ⟨w.heap.size + 1 + 1, 2, none⟩ = some (.string { data := #[] }) := hx1.cell (by go_simp)
    have hE := hid (Ext.trans ((((Ext.refl w).alloc_right _).alloc_right _).alloc_right _) hx1)
    have lt_1 : w.heap.size < w1.heap.size := World.block_lt_of_cell? w1 _ c0_0_0
    have lt_2 : w.heap.size + 1 < w1.heap.size := World.block_lt_of_cell? w1 _ c0_1_0
    have lt_3 : w.heap.size + 1 + 1 < w1.heap.size := World.block_lt_of_cell? w1 _ c0_2_0
    clear hx1
    go_wp2_with fail
    refine (hno.out _).mono ?_
    rintro e w2 ⟨rfl, hx2⟩
    replace t := hid (There.ext t.out hx2)
    replace c0_0_0 := hx2.cell c0_0_0
    replace c0_0_1 := hx2.cell c0_0_1
    replace c0_0_2 := hx2.cell c0_0_2
    replace c0_1_0 := hx2.cell c0_1_0
    replace c0_1_1 := hx2.cell c0_1_1
    replace c0_1_2 := hx2.cell c0_1_2
    replace c0_2_0 := hx2.cell c0_2_0
    replace c0_2_1 := hx2.cell c0_2_1
    replace c0_2_2 := hx2.cell c0_2_2
    replace hE := hid (Ext.trans hE.out hx2)
    clear lt_1
    have lt_1 : w.heap.size < w2.heap.size := World.block_lt_of_cell? w2 _ c0_0_0
    clear lt_2
    have lt_2 : w.heap.size + 1 < w2.heap.size := World.block_lt_of_cell? w2 _ c0_1_0
    clear lt_3
    have lt_3 : w.heap.size + 1 + 1 < w2.heap.size := World.block_lt_of_cell? w2 _ c0_2_0
    clear hx2
    have p0 := t.out.cell (o := 0) (by omega)
    have f0 := t.out.free (o := 0) (by omega)
    have p1 := t.out.cell (o := 1) (by omega)
    have f1 := t.out.free (o := 1) (by omega)
    have p2 := t.out.cell (o := 2) (by omega)
    have f2 := t.out.free (o := 2) (by omega)
    have kk := hid (put3 t.out (.int .i64 (diedR 1).1) (.int .i64 (diedR 1).2.1) (.string (diedR 1).2.2.1))
    have Fin := hid (((hE.out.set (p := ⟨w.heap.size + 1 + 1, 0, none⟩) (show w.heap.size ≤ w.heap.size + 1 + 1 by omega) (.int .i64 (diedR 1).1)).set (p := ⟨w.heap.size + 1 + 1, 1, none⟩) (show w.heap.size ≤ w.heap.size + 1 + 1 by omega) (.int .i64 (diedR 1).2.1)).set (p := ⟨w.heap.size + 1 + 1, 2, none⟩) (show w.heap.size ≤ w.heap.size + 1 + 1 by omega) (.string (diedR 1).2.2.1))
    clear t
    clear c0_2_0 c0_2_1 c0_2_2
    go_wp2
    obtain ⟨k0, k1, k2⟩ := kk.out
    exact bodyPost_ret (v := .tuple #[.agg #[.int .i64 (diedR 1).1, .int .i64 (diedR 1).2.1, .string (diedR 1).2.2.1], .int .i64 (diedR 1).2.2.2]) (by simp [results, Tryd.results68, go_sem, k0, k1, k2]) rfl ⟨rfl, Fin.out⟩
  · clear c1 c2 c3 c4 hk hk'
    go_enter Tryd.func68, Tryd.ntmps68
    go_upto_region 1 with fail
    generalize hw_ : (((w.alloc (.cells #[.int .i64 k, .int .i64 n, .string s] 23)).alloc (.cells #[.int .i64 k', .int .i64 n', .string s'] 23)).alloc (.cells #[.int .i64 0, .int .i64 0, .string { data := #[] }] 23)) = w1
    have hx1 : Ext (((w.alloc (.cells #[.int .i64 k, .int .i64 n, .string s] 23)).alloc (.cells #[.int .i64 k', .int .i64 n', .string s'] 23)).alloc (.cells #[.int .i64 0, .int .i64 0, .string { data := #[] }] 23)) w1 := by rw [hw_]; exact Ext.refl _
    clear hw_
    have t := hid (There.ext (There.newb ((w.alloc (.cells #[.int .i64 k, .int .i64 n, .string s] 23)).alloc (.cells #[.int .i64 k', .int .i64 n', .string s'] 23)) #[.int .i64 0, .int .i64 0, .string { data := #[] }] 23 (n := 3) (b := w.heap.size + 1 + 1) (by simp) (by decide)) hx1)
    have c0_0_0 : w1.cell? ⟨w.heap.size, 0, none⟩ = some (.int .i64 k) := hx1.cell (by go_simp)
    have c0_0_1 : w1.cell? ⟨w.heap.size, 1, none⟩ = some (.int .i64 n) := hx1.cell (by go_simp)
    have c0_0_2 : w1.cell? ⟨w.heap.size, 2, none⟩ = some (.string s) := hx1.cell (by go_simp)
    have c0_1_0 : w1.cell? ⟨w.heap.size + 1, 0, none⟩ = some (.int .i64 k') := hx1.cell (by go_simp)
    have c0_1_1 : w1.cell? ⟨w.heap.size + 1, 1, none⟩ = some (.int .i64 n') := hx1.cell (by go_simp)
    have c0_1_2 : w1.cell? ⟨w.heap.size + 1, 2, none⟩ = some (.string s') := hx1.cell (by go_simp)
    have c0_2_0 : w1.cell? ⟨w.heap.size + 1 + 1, 0, none⟩ = some (.int .i64 0) := hx1.cell (by go_simp)
    have c0_2_1 : w1.cell? ⟨w.heap.size + 1 + 1, 1, none⟩ = some (.int .i64 0) := hx1.cell (by go_simp)
    have c0_2_2 : w1.cell? ⟨w.heap.size + 1 + 1, 2, none⟩ = some (.string { data := #[] }) := hx1.cell (by go_simp)
    have hE := hid (Ext.trans ((((Ext.refl w).alloc_right _).alloc_right _).alloc_right _) hx1)
    have lt_1 : w.heap.size < w1.heap.size := World.block_lt_of_cell? w1 _ c0_0_0
    have lt_2 : w.heap.size + 1 < w1.heap.size := World.block_lt_of_cell? w1 _ c0_1_0
    have lt_3 : w.heap.size + 1 + 1 < w1.heap.size := World.block_lt_of_cell? w1 _ c0_2_0
    clear hx1
    go_wp2_with fail
    refine (hno.out _).mono ?_
    rintro e w2 ⟨rfl, hx2⟩
    replace t := hid (There.ext t.out hx2)
    replace c0_0_0 := hx2.cell c0_0_0
    replace c0_0_1 := hx2.cell c0_0_1
    replace c0_0_2 := hx2.cell c0_0_2
    replace c0_1_0 := hx2.cell c0_1_0
    replace c0_1_1 := hx2.cell c0_1_1
    replace c0_1_2 := hx2.cell c0_1_2
    replace c0_2_0 := hx2.cell c0_2_0
    replace c0_2_1 := hx2.cell c0_2_1
    replace c0_2_2 := hx2.cell c0_2_2
    replace hE := hid (Ext.trans hE.out hx2)
    clear lt_1
    have lt_1 : w.heap.size < w2.heap.size := World.block_lt_of_cell? w2 _ c0_0_0
    clear lt_2
    have lt_2 : w.heap.size + 1 < w2.heap.size := World.block_lt_of_cell? w2 _ c0_1_0
    clear lt_3
    have lt_3 : w.heap.size + 1 + 1 < w2.heap.size := World.block_lt_of_cell? w2 _ c0_2_0
    clear hx2
    have p0 := t.out.cell (o := 0) (by omega)
    have f0 := t.out.free (o := 0) (by omega)
    have p1 := t.out.cell (o := 1) (by omega)
    have f1 := t.out.free (o := 1) (by omega)
    have p2 := t.out.cell (o := 2) (by omega)
    have f2 := t.out.free (o := 2) (by omega)
    have kk := hid (put3 t.out (.int .i64 (diedR 1).1) (.int .i64 (diedR 1).2.1) (.string (diedR 1).2.2.1))
    have Fin := hid (((hE.out.set (p := ⟨w.heap.size + 1 + 1, 0, none⟩) (show w.heap.size ≤ w.heap.size + 1 + 1 by omega) (.int .i64 (diedR 1).1)).set (p := ⟨w.heap.size + 1 + 1, 1, none⟩) (show w.heap.size ≤ w.heap.size + 1 + 1 by omega) (.int .i64 (diedR 1).2.1)).set (p := ⟨w.heap.size + 1 + 1, 2, none⟩) (show w.heap.size ≤ w.heap.size + 1 + 1 by omega) (.string (diedR 1).2.2.1))
    clear t
    clear c0_2_0 c0_2_1 c0_2_2
    go_wp2
    obtain ⟨k0, k1, k2⟩ := kk.out
    exact bodyPost_ret (v := .tuple #[.agg #[.int .i64 (diedR 1).1, .int .i64 (diedR 1).2.1, .string (diedR 1).2.2.1], .int .i64 (diedR 1).2.2.2]) (by simp [results, Tryd.results68, go_sem, k0, k1, k2]) rfl ⟨rfl, Fin.out⟩
set_option maxRecDepth 100000 in
set_option maxHeartbeats 2000000 in
theorem Done_1 (k n : Int) (s : ByteArray) (k' n' : Int) (s' : ByteArray) (w : World) (h1 : Bd k n s) (h2 : Bd k' n' s') (hk : k ≠ 0) (hk' : k' ≠ 0) : Calls Tryd.prog 68 #[.int .i64 1, vV k n s, vV k' n' s'] w (GiveP (subR k n s k' n' s') w) := by
  have e0 : (k == 0) = false := by simpa using hk
  have e0' : (k' == 0) = false := by simpa using hk'
  unfold vV
  by_cases c1 : k = 2 ∧ k' = 2
  · obtain ⟨rfl, rfl⟩ := c1
    rw [show subR 2 n s 2 n' s' = numR (n - n') by unfold subR; rw [if_pos ⟨rfl, rfl⟩]]
    go_enter Tryd.func68, Tryd.ntmps68
    go_upto_region 1 with fail
    generalize hw_ : (((w.alloc (.cells #[.int .i64 2, .int .i64 n, .string s] 23)).alloc (.cells #[.int .i64 2, .int .i64 n', .string s'] 23)).alloc (.cells #[.int .i64 0, .int .i64 0, .string { data := #[] }] 23)) = w1
    have hx1 : Ext (((w.alloc (.cells #[.int .i64 2, .int .i64 n, .string s] 23)).alloc (.cells #[.int .i64 2, .int .i64 n', .string s'] 23)).alloc (.cells #[.int .i64 0, .int .i64 0, .string { data := #[] }] 23)) w1 := by rw [hw_]; exact Ext.refl _
    clear hw_
    have t := hid (There.ext (There.newb ((w.alloc (.cells #[.int .i64 2, .int .i64 n, .string s] 23)).alloc (.cells #[.int .i64 2, .int .i64 n', .string s'] 23)) #[.int .i64 0, .int .i64 0, .string { data := #[] }] 23 (n := 3) (b := w.heap.size + 1 + 1) (by simp) (by decide)) hx1)
    have c0_0_0 : w1.cell? ⟨w.heap.size, 0, none⟩ = some (.int .i64 2) := hx1.cell (by go_simp)
    have c0_0_1 : w1.cell? ⟨w.heap.size, 1, none⟩ = some (.int .i64 n) := hx1.cell (by go_simp)
    have c0_0_2 : w1.cell? ⟨w.heap.size, 2, none⟩ = some (.string s) := hx1.cell (by go_simp)
    have c0_1_0 : w1.cell? ⟨w.heap.size + 1, 0, none⟩ = some (.int .i64 2) := hx1.cell (by go_simp)
    have c0_1_1 : w1.cell? ⟨w.heap.size + 1, 1, none⟩ = some (.int .i64 n') := hx1.cell (by go_simp)
    have c0_1_2 : w1.cell? ⟨w.heap.size + 1, 2, none⟩ = some (.string s') := hx1.cell (by go_simp)
    have c0_2_0 : w1.cell? ⟨w.heap.size + 1 + 1, 0, none⟩ = some (.int .i64 0) := hx1.cell (by go_simp)
    have c0_2_1 : w1.cell? ⟨w.heap.size + 1 + 1, 1, none⟩ = some (.int .i64 0) := hx1.cell (by go_simp)
    have c0_2_2 : w1.cell? ⟨w.heap.size + 1 + 1, 2, none⟩ = some (.string { data := #[] }) := hx1.cell (by go_simp)
    have hE := hid (Ext.trans ((((Ext.refl w).alloc_right _).alloc_right _).alloc_right _) hx1)
    have lt_1 : w.heap.size < w1.heap.size := World.block_lt_of_cell? w1 _ c0_0_0
    have lt_2 : w.heap.size + 1 < w1.heap.size := World.block_lt_of_cell? w1 _ c0_1_0
    have lt_3 : w.heap.size + 1 + 1 < w1.heap.size := World.block_lt_of_cell? w1 _ c0_2_0
    clear hx1
    go_wp2_with fail
    refine (numbers_1 n n' _ h1.num h2.num).mono ?_
    rintro e w2 ⟨rfl, hx2⟩
    replace t := hid (There.ext t.out hx2)
    replace c0_0_0 := hx2.cell c0_0_0
    replace c0_0_1 := hx2.cell c0_0_1
    replace c0_0_2 := hx2.cell c0_0_2
    replace c0_1_0 := hx2.cell c0_1_0
    replace c0_1_1 := hx2.cell c0_1_1
    replace c0_1_2 := hx2.cell c0_1_2
    replace c0_2_0 := hx2.cell c0_2_0
    replace c0_2_1 := hx2.cell c0_2_1
    replace c0_2_2 := hx2.cell c0_2_2
    replace hE := hid (Ext.trans hE.out hx2)
    clear lt_1
    have lt_1 : w.heap.size < w2.heap.size := World.block_lt_of_cell? w2 _ c0_0_0
    clear lt_2
    have lt_2 : w.heap.size + 1 < w2.heap.size := World.block_lt_of_cell? w2 _ c0_1_0
    clear lt_3
    have lt_3 : w.heap.size + 1 + 1 < w2.heap.size := World.block_lt_of_cell? w2 _ c0_2_0
    clear hx2
    have p0 := t.out.cell (o := 0) (by omega)
    have f0 := t.out.free (o := 0) (by omega)
    have p1 := t.out.cell (o := 1) (by omega)
    have f1 := t.out.free (o := 1) (by omega)
    have p2 := t.out.cell (o := 2) (by omega)
    have f2 := t.out.free (o := 2) (by omega)
    have kk := hid (put3 t.out (.int .i64 (numR (n - n')).1) (.int .i64 (numR (n - n')).2.1) (.string (numR (n - n')).2.2.1))
    have Fin := hid (((hE.out.set (p := ⟨w.heap.size + 1 + 1, 0, none⟩) (show w.heap.size ≤ w.heap.size + 1 + 1 by omega) (.int .i64 (numR (n - n')).1)).set (p := ⟨w.heap.size + 1 + 1, 1, none⟩) (show w.heap.size ≤ w.heap.size + 1 + 1 by omega) (.int .i64 (numR (n - n')).2.1)).set (p := ⟨w.heap.size + 1 + 1, 2, none⟩) (show w.heap.size ≤ w.heap.size + 1 + 1 by omega) (.string (numR (n - n')).2.2.1))
    clear t
    clear c0_2_0 c0_2_1 c0_2_2
    go_wp2
    obtain ⟨k0, k1, k2⟩ := kk.out
    exact bodyPost_ret (v := .tuple #[.agg #[.int .i64 (numR (n - n')).1, .int .i64 (numR (n - n')).2.1, .string (numR (n - n')).2.2.1], .int .i64 (numR (n - n')).2.2.2]) (by simp [results, Tryd.results68, go_sem, k0, k1, k2]) rfl ⟨rfl, Fin.out⟩
  by_cases c2 : k = 3 ∧ k' = 2
  · obtain ⟨rfl, rfl⟩ := c2
    rw [show subR 3 n s 2 n' s' = dayR n (-n') by unfold subR; rw [if_neg c1, if_pos ⟨rfl, rfl⟩]]
    go_enter Tryd.func68, Tryd.ntmps68
    go_upto_region 1 with fail
    generalize hw_ : (((w.alloc (.cells #[.int .i64 3, .int .i64 n, .string s] 23)).alloc (.cells #[.int .i64 2, .int .i64 n', .string s'] 23)).alloc (.cells #[.int .i64 0, .int .i64 0, .string { data := #[] }] 23)) = w1
    have hx1 : Ext (((w.alloc (.cells #[.int .i64 3, .int .i64 n, .string s] 23)).alloc (.cells #[.int .i64 2, .int .i64 n', .string s'] 23)).alloc (.cells #[.int .i64 0, .int .i64 0, .string { data := #[] }] 23)) w1 := by rw [hw_]; exact Ext.refl _
    clear hw_
    have t := hid (There.ext (There.newb ((w.alloc (.cells #[.int .i64 3, .int .i64 n, .string s] 23)).alloc (.cells #[.int .i64 2, .int .i64 n', .string s'] 23)) #[.int .i64 0, .int .i64 0, .string { data := #[] }] 23 (n := 3) (b := w.heap.size + 1 + 1) (by simp) (by decide)) hx1)
    have c0_0_0 : w1.cell? ⟨w.heap.size, 0, none⟩ = some (.int .i64 3) := hx1.cell (by go_simp)
    have c0_0_1 : w1.cell? ⟨w.heap.size, 1, none⟩ = some (.int .i64 n) := hx1.cell (by go_simp)
    have c0_0_2 : w1.cell? ⟨w.heap.size, 2, none⟩ = some (.string s) := hx1.cell (by go_simp)
    have c0_1_0 : w1.cell? ⟨w.heap.size + 1, 0, none⟩ = some (.int .i64 2) := hx1.cell (by go_simp)
    have c0_1_1 : w1.cell? ⟨w.heap.size + 1, 1, none⟩ = some (.int .i64 n') := hx1.cell (by go_simp)
    have c0_1_2 : w1.cell? ⟨w.heap.size + 1, 2, none⟩ = some (.string s') := hx1.cell (by go_simp)
    have c0_2_0 : w1.cell? ⟨w.heap.size + 1 + 1, 0, none⟩ = some (.int .i64 0) := hx1.cell (by go_simp)
    have c0_2_1 : w1.cell? ⟨w.heap.size + 1 + 1, 1, none⟩ = some (.int .i64 0) := hx1.cell (by go_simp)
    have c0_2_2 : w1.cell? ⟨w.heap.size + 1 + 1, 2, none⟩ = some (.string { data := #[] }) := hx1.cell (by go_simp)
    have hE := hid (Ext.trans ((((Ext.refl w).alloc_right _).alloc_right _).alloc_right _) hx1)
    have lt_1 : w.heap.size < w1.heap.size := World.block_lt_of_cell? w1 _ c0_0_0
    have lt_2 : w.heap.size + 1 < w1.heap.size := World.block_lt_of_cell? w1 _ c0_1_0
    have lt_3 : w.heap.size + 1 + 1 < w1.heap.size := World.block_lt_of_cell? w1 _ c0_2_0
    clear hx1
    go_wp2_with fail
    refine (others_sub32 n s n' s' _ h1 h2).mono ?_
    rintro e w2 ⟨rfl, hx2⟩
    replace t := hid (There.ext t.out hx2)
    replace c0_0_0 := hx2.cell c0_0_0
    replace c0_0_1 := hx2.cell c0_0_1
    replace c0_0_2 := hx2.cell c0_0_2
    replace c0_1_0 := hx2.cell c0_1_0
    replace c0_1_1 := hx2.cell c0_1_1
    replace c0_1_2 := hx2.cell c0_1_2
    replace c0_2_0 := hx2.cell c0_2_0
    replace c0_2_1 := hx2.cell c0_2_1
    replace c0_2_2 := hx2.cell c0_2_2
    replace hE := hid (Ext.trans hE.out hx2)
    clear lt_1
    have lt_1 : w.heap.size < w2.heap.size := World.block_lt_of_cell? w2 _ c0_0_0
    clear lt_2
    have lt_2 : w.heap.size + 1 < w2.heap.size := World.block_lt_of_cell? w2 _ c0_1_0
    clear lt_3
    have lt_3 : w.heap.size + 1 + 1 < w2.heap.size := World.block_lt_of_cell? w2 _ c0_2_0
    clear hx2
    have p0 := t.out.cell (o := 0) (by omega)
    have f0 := t.out.free (o := 0) (by omega)
    have p1 := t.out.cell (o := 1) (by omega)
    have f1 := t.out.free (o := 1) (by omega)
    have p2 := t.out.cell (o := 2) (by omega)
    have f2 := t.out.free (o := 2) (by omega)
    have kk := hid (put3 t.out (.int .i64 (dayR n (-n')).1) (.int .i64 (dayR n (-n')).2.1) (.string (dayR n (-n')).2.2.1))
    have Fin := hid (((hE.out.set (p := ⟨w.heap.size + 1 + 1, 0, none⟩) (show w.heap.size ≤ w.heap.size + 1 + 1 by omega) (.int .i64 (dayR n (-n')).1)).set (p := ⟨w.heap.size + 1 + 1, 1, none⟩) (show w.heap.size ≤ w.heap.size + 1 + 1 by omega) (.int .i64 (dayR n (-n')).2.1)).set (p := ⟨w.heap.size + 1 + 1, 2, none⟩) (show w.heap.size ≤ w.heap.size + 1 + 1 by omega) (.string (dayR n (-n')).2.2.1))
    clear t
    clear c0_2_0 c0_2_1 c0_2_2
    go_wp2
    obtain ⟨k0, k1, k2⟩ := kk.out
    exact bodyPost_ret (v := .tuple #[.agg #[.int .i64 (dayR n (-n')).1, .int .i64 (dayR n (-n')).2.1, .string (dayR n (-n')).2.2.1], .int .i64 (dayR n (-n')).2.2.2]) (by simp [results, Tryd.results68, go_sem, k0, k1, k2]) rfl ⟨rfl, Fin.out⟩
  by_cases c3 : k = 3 ∧ k' = 3
  · obtain ⟨rfl, rfl⟩ := c3
    rw [show subR 3 n s 3 n' s' = numR (if n = 0 ∨ n' = 0 then 0 else n - n') by unfold subR; rw [if_neg c1, if_neg c2, if_pos ⟨rfl, rfl⟩]]
    have hc := hid (fun w => others_sub33 n s n' s' w h1 h2)
    generalize numR (if n = 0 ∨ n' = 0 then 0 else n - n') = X at *
    go_enter Tryd.func68, Tryd.ntmps68
    go_upto_region 1 with fail
    generalize hw_ : (((w.alloc (.cells #[.int .i64 3, .int .i64 n, .string s] 23)).alloc (.cells #[.int .i64 3, .int .i64 n', .string s'] 23)).alloc (.cells #[.int .i64 0, .int .i64 0, .string { data := #[] }] 23)) = w1
    have hx1 : Ext (((w.alloc (.cells #[.int .i64 3, .int .i64 n, .string s] 23)).alloc (.cells #[.int .i64 3, .int .i64 n', .string s'] 23)).alloc (.cells #[.int .i64 0, .int .i64 0, .string { data := #[] }] 23)) w1 := by rw [hw_]; exact Ext.refl _
    clear hw_
    have t := hid (There.ext (There.newb ((w.alloc (.cells #[.int .i64 3, .int .i64 n, .string s] 23)).alloc (.cells #[.int .i64 3, .int .i64 n', .string s'] 23)) #[.int .i64 0, .int .i64 0, .string { data := #[] }] 23 (n := 3) (b := w.heap.size + 1 + 1) (by simp) (by decide)) hx1)
    have c0_0_0 : w1.cell? ⟨w.heap.size, 0, none⟩ = some (.int .i64 3) := hx1.cell (by go_simp)
    have c0_0_1 : w1.cell? ⟨w.heap.size, 1, none⟩ = some (.int .i64 n) := hx1.cell (by go_simp)
    have c0_0_2 : w1.cell? ⟨w.heap.size, 2, none⟩ = some (.string s) := hx1.cell (by go_simp)
    have c0_1_0 : w1.cell? ⟨w.heap.size + 1, 0, none⟩ = some (.int .i64 3) := hx1.cell (by go_simp)
    have c0_1_1 : w1.cell? ⟨w.heap.size + 1, 1, none⟩ = some (.int .i64 n') := hx1.cell (by go_simp)
    have c0_1_2 : w1.cell? ⟨w.heap.size + 1, 2, none⟩ = some (.string s') := hx1.cell (by go_simp)
    have c0_2_0 : w1.cell? ⟨w.heap.size + 1 + 1, 0, none⟩ = some (.int .i64 0) := hx1.cell (by go_simp)
    have c0_2_1 : w1.cell? ⟨w.heap.size + 1 + 1, 1, none⟩ = some (.int .i64 0) := hx1.cell (by go_simp)
    have c0_2_2 : w1.cell? ⟨w.heap.size + 1 + 1, 2, none⟩ = some (.string { data := #[] }) := hx1.cell (by go_simp)
    have hE := hid (Ext.trans ((((Ext.refl w).alloc_right _).alloc_right _).alloc_right _) hx1)
    have lt_1 : w.heap.size < w1.heap.size := World.block_lt_of_cell? w1 _ c0_0_0
    have lt_2 : w.heap.size + 1 < w1.heap.size := World.block_lt_of_cell? w1 _ c0_1_0
    have lt_3 : w.heap.size + 1 + 1 < w1.heap.size := World.block_lt_of_cell? w1 _ c0_2_0
    clear hx1
    go_wp2_with fail
    refine (hc.out _).mono ?_
    rintro e w2 ⟨rfl, hx2⟩
    replace t := hid (There.ext t.out hx2)
    replace c0_0_0 := hx2.cell c0_0_0
    replace c0_0_1 := hx2.cell c0_0_1
    replace c0_0_2 := hx2.cell c0_0_2
    replace c0_1_0 := hx2.cell c0_1_0
    replace c0_1_1 := hx2.cell c0_1_1
    replace c0_1_2 := hx2.cell c0_1_2
    replace c0_2_0 := hx2.cell c0_2_0
    replace c0_2_1 := hx2.cell c0_2_1
    replace c0_2_2 := hx2.cell c0_2_2
    replace hE := hid (Ext.trans hE.out hx2)
    clear lt_1
    have lt_1 : w.heap.size < w2.heap.size := World.block_lt_of_cell? w2 _ c0_0_0
    clear lt_2
    have lt_2 : w.heap.size + 1 < w2.heap.size := World.block_lt_of_cell? w2 _ c0_1_0
    clear lt_3
    have lt_3 : w.heap.size + 1 + 1 < w2.heap.size := World.block_lt_of_cell? w2 _ c0_2_0
    clear hx2
    have p0 := t.out.cell (o := 0) (by omega)
    have f0 := t.out.free (o := 0) (by omega)
    have p1 := t.out.cell (o := 1) (by omega)
    have f1 := t.out.free (o := 1) (by omega)
    have p2 := t.out.cell (o := 2) (by omega)
    have f2 := t.out.free (o := 2) (by omega)
    have kk := hid (put3 t.out (.int .i64 (X).1) (.int .i64 (X).2.1) (.string (X).2.2.1))
    have Fin := hid (((hE.out.set (p := ⟨w.heap.size + 1 + 1, 0, none⟩) (show w.heap.size ≤ w.heap.size + 1 + 1 by omega) (.int .i64 (X).1)).set (p := ⟨w.heap.size + 1 + 1, 1, none⟩) (show w.heap.size ≤ w.heap.size + 1 + 1 by omega) (.int .i64 (X).2.1)).set (p := ⟨w.heap.size + 1 + 1, 2, none⟩) (show w.heap.size ≤ w.heap.size + 1 + 1 by omega) (.string (X).2.2.1))
    clear t
    clear c0_2_0 c0_2_1 c0_2_2
    go_wp2
    obtain ⟨k0, k1, k2⟩ := kk.out
    exact bodyPost_ret (v := .tuple #[.agg #[.int .i64 (X).1, .int .i64 (X).2.1, .string (X).2.2.1], .int .i64 (X).2.2.2]) (by simp [results, Tryd.results68, go_sem, k0, k1, k2]) rfl ⟨rfl, Fin.out⟩
  by_cases c4 : k = 4 ∧ k' = 4
  · obtain ⟨rfl, rfl⟩ := c4
    rw [show subR 4 n s 4 n' s' = textR (subT s s') by unfold subR; rw [if_neg c1, if_neg c2, if_neg c3, if_pos ⟨rfl, rfl⟩]]
    go_enter Tryd.func68, Tryd.ntmps68
    go_upto_region 1 with fail
    generalize hw_ : (((w.alloc (.cells #[.int .i64 4, .int .i64 n, .string s] 23)).alloc (.cells #[.int .i64 4, .int .i64 n', .string s'] 23)).alloc (.cells #[.int .i64 0, .int .i64 0, .string { data := #[] }] 23)) = w1
    have hx1 : Ext (((w.alloc (.cells #[.int .i64 4, .int .i64 n, .string s] 23)).alloc (.cells #[.int .i64 4, .int .i64 n', .string s'] 23)).alloc (.cells #[.int .i64 0, .int .i64 0, .string { data := #[] }] 23)) w1 := by rw [hw_]; exact Ext.refl _
    clear hw_
    have t := hid (There.ext (There.newb ((w.alloc (.cells #[.int .i64 4, .int .i64 n, .string s] 23)).alloc (.cells #[.int .i64 4, .int .i64 n', .string s'] 23)) #[.int .i64 0, .int .i64 0, .string { data := #[] }] 23 (n := 3) (b := w.heap.size + 1 + 1) (by simp) (by decide)) hx1)
    have c0_0_0 : w1.cell? ⟨w.heap.size, 0, none⟩ = some (.int .i64 4) := hx1.cell (by go_simp)
    have c0_0_1 : w1.cell? ⟨w.heap.size, 1, none⟩ = some (.int .i64 n) := hx1.cell (by go_simp)
    have c0_0_2 : w1.cell? ⟨w.heap.size, 2, none⟩ = some (.string s) := hx1.cell (by go_simp)
    have c0_1_0 : w1.cell? ⟨w.heap.size + 1, 0, none⟩ = some (.int .i64 4) := hx1.cell (by go_simp)
    have c0_1_1 : w1.cell? ⟨w.heap.size + 1, 1, none⟩ = some (.int .i64 n') := hx1.cell (by go_simp)
    have c0_1_2 : w1.cell? ⟨w.heap.size + 1, 2, none⟩ = some (.string s') := hx1.cell (by go_simp)
    have c0_2_0 : w1.cell? ⟨w.heap.size + 1 + 1, 0, none⟩ = some (.int .i64 0) := hx1.cell (by go_simp)
    have c0_2_1 : w1.cell? ⟨w.heap.size + 1 + 1, 1, none⟩ = some (.int .i64 0) := hx1.cell (by go_simp)
    have c0_2_2 : w1.cell? ⟨w.heap.size + 1 + 1, 2, none⟩ = some (.string { data := #[] }) := hx1.cell (by go_simp)
    have hE := hid (Ext.trans ((((Ext.refl w).alloc_right _).alloc_right _).alloc_right _) hx1)
    have lt_1 : w.heap.size < w1.heap.size := World.block_lt_of_cell? w1 _ c0_0_0
    have lt_2 : w.heap.size + 1 < w1.heap.size := World.block_lt_of_cell? w1 _ c0_1_0
    have lt_3 : w.heap.size + 1 + 1 < w1.heap.size := World.block_lt_of_cell? w1 _ c0_2_0
    clear hx1
    go_wp2_with fail
    refine (others_sub44 n s n' s' _ h1 h2).mono ?_
    rintro e w2 ⟨rfl, hx2⟩
    replace t := hid (There.ext t.out hx2)
    replace c0_0_0 := hx2.cell c0_0_0
    replace c0_0_1 := hx2.cell c0_0_1
    replace c0_0_2 := hx2.cell c0_0_2
    replace c0_1_0 := hx2.cell c0_1_0
    replace c0_1_1 := hx2.cell c0_1_1
    replace c0_1_2 := hx2.cell c0_1_2
    replace c0_2_0 := hx2.cell c0_2_0
    replace c0_2_1 := hx2.cell c0_2_1
    replace c0_2_2 := hx2.cell c0_2_2
    replace hE := hid (Ext.trans hE.out hx2)
    clear lt_1
    have lt_1 : w.heap.size < w2.heap.size := World.block_lt_of_cell? w2 _ c0_0_0
    clear lt_2
    have lt_2 : w.heap.size + 1 < w2.heap.size := World.block_lt_of_cell? w2 _ c0_1_0
    clear lt_3
    have lt_3 : w.heap.size + 1 + 1 < w2.heap.size := World.block_lt_of_cell? w2 _ c0_2_0
    clear hx2
    have p0 := t.out.cell (o := 0) (by omega)
    have f0 := t.out.free (o := 0) (by omega)
    have p1 := t.out.cell (o := 1) (by omega)
    have f1 := t.out.free (o := 1) (by omega)
    have p2 := t.out.cell (o := 2) (by omega)
    have f2 := t.out.free (o := 2) (by omega)
    have kk := hid (put3 t.out (.int .i64 (textR (subT s s')).1) (.int .i64 (textR (subT s s')).2.1) (.string (textR (subT s s')).2.2.1))
    have Fin := hid (((hE.out.set (p := ⟨w.heap.size + 1 + 1, 0, none⟩) (show w.heap.size ≤ w.heap.size + 1 + 1 by omega) (.int .i64 (textR (subT s s')).1)).set (p := ⟨w.heap.size + 1 + 1, 1, none⟩) (show w.heap.size ≤ w.heap.size + 1 + 1 by omega) (.int .i64 (textR (subT s s')).2.1)).set (p := ⟨w.heap.size + 1 + 1, 2, none⟩) (show w.heap.size ≤ w.heap.size + 1 + 1 by omega) (.string (textR (subT s s')).2.2.1))
    clear t
    clear c0_2_0 c0_2_1 c0_2_2
    go_wp2
    obtain ⟨k0, k1, k2⟩ := kk.out
    exact bodyPost_ret (v := .tuple #[.agg #[.int .i64 (textR (subT s s')).1, .int .i64 (textR (subT s s')).2.1, .string (textR (subT s s')).2.2.1], .int .i64 (textR (subT s s')).2.2.2]) (by simp [results, Tryd.results68, go_sem, k0, k1, k2]) rfl ⟨rfl, Fin.out⟩
  rw [show subR k n s k' n' s' = diedR 1 by unfold subR; rw [if_neg c1, if_neg c2, if_neg c3, if_neg c4]]
  have hno := hid (fun w => others_no 1 k n s k' n' s' w (bd_kind h1 hk) (bd_kind h2 hk') (by rintro ⟨h, _⟩; exact absurd h (by decide)) (by rintro ⟨_, h | h | h⟩ <;> simp_all))
  rcases Bool.eq_false_or_eq_true (k == 2) with g | g
  · have g2 : (k' == 2) = false := by
      have a : k = 2 := by simpa using g
      simpa using (show k' ≠ 2 from fun b => c1 ⟨a, b⟩)
    clear c1 c2 c3 c4 hk hk'
    go_enter Tryd.func68, Tryd.ntmps68
    go_upto_region 1 with fail
    generalize hw_ : (((w.alloc (.cells #[.int .i64 k, .int .i64 n, .string s] 23)).alloc (.cells #[.int .i64 k', .int .i64 n', .string s'] 23)).alloc (.cells #[.int .i64 0, .int .i64 0, .string { data := #[] }] 23)) = w1
    have hx1 : Ext (((w.alloc (.cells #[.int .i64 k, .int .i64 n, .string s] 23)).alloc (.cells #[.int .i64 k', .int .i64 n', .string s'] 23)).alloc (.cells #[.int .i64 0, .int .i64 0, .string { data := #[] }] 23)) w1 := by rw [hw_]; exact Ext.refl _
    clear hw_
    have t := hid (There.ext (There.newb ((w.alloc (.cells #[.int .i64 k, .int .i64 n, .string s] 23)).alloc (.cells #[.int .i64 k', .int .i64 n', .string s'] 23)) #[.int .i64 0, .int .i64 0, .string { data := #[] }] 23 (n := 3) (b := w.heap.size + 1 + 1) (by simp) (by decide)) hx1)
    have c0_0_0 : w1.cell? ⟨w.heap.size, 0, none⟩ = some (.int .i64 k) := hx1.cell (by go_simp)
    have c0_0_1 : w1.cell? ⟨w.heap.size, 1, none⟩ = some (.int .i64 n) := hx1.cell (by go_simp)
    have c0_0_2 : w1.cell? ⟨w.heap.size, 2, none⟩ = some (.string s) := hx1.cell (by go_simp)
    have c0_1_0 : w1.cell? ⟨w.heap.size + 1, 0, none⟩ = some (.int .i64 k') := hx1.cell (by go_simp)
    have c0_1_1 : w1.cell? ⟨w.heap.size + 1, 1, none⟩ = some (.int .i64 n') := hx1.cell (by go_simp)
    have c0_1_2 : w1.cell? ⟨w.heap.size + 1, 2, none⟩ = some (.string s') := hx1.cell (by go_simp)
    have c0_2_0 : w1.cell? ⟨w.heap.size + 1 + 1, 0, none⟩ = some (.int .i64 0) := hx1.cell (by go_simp)
    have c0_2_1 : w1.cell? ⟨w.heap.size + 1 + 1, 1, none⟩ = some (.int .i64 0) := hx1.cell (by go_simp)
    have c0_2_2 : w1.cell? ⟨w.heap.size + 1 + 1, 2, none⟩ = some (.string { data := #[] }) := hx1.cell (by go_simp)
    have hE := hid (Ext.trans ((((Ext.refl w).alloc_right _).alloc_right _).alloc_right _) hx1)
    have lt_1 : w.heap.size < w1.heap.size := World.block_lt_of_cell? w1 _ c0_0_0
    have lt_2 : w.heap.size + 1 < w1.heap.size := World.block_lt_of_cell? w1 _ c0_1_0
    have lt_3 : w.heap.size + 1 + 1 < w1.heap.size := World.block_lt_of_cell? w1 _ c0_2_0
    clear hx1
    go_wp2_with fail
    refine (hno.out _).mono ?_
    rintro e w2 ⟨rfl, hx2⟩
    replace t := hid (There.ext t.out hx2)
    replace c0_0_0 := hx2.cell c0_0_0
    replace c0_0_1 := hx2.cell c0_0_1
    replace c0_0_2 := hx2.cell c0_0_2
    replace c0_1_0 := hx2.cell c0_1_0
    replace c0_1_1 := hx2.cell c0_1_1
    replace c0_1_2 := hx2.cell c0_1_2
    replace c0_2_0 := hx2.cell c0_2_0
    replace c0_2_1 := hx2.cell c0_2_1
    replace c0_2_2 := hx2.cell c0_2_2
    replace hE := hid (Ext.trans hE.out hx2)
    clear lt_1
    have lt_1 : w.heap.size < w2.heap.size := World.block_lt_of_cell? w2 _ c0_0_0
    clear lt_2
    have lt_2 : w.heap.size + 1 < w2.heap.size := World.block_lt_of_cell? w2 _ c0_1_0
    clear lt_3
    have lt_3 : w.heap.size + 1 + 1 < w2.heap.size := World.block_lt_of_cell? w2 _ c0_2_0
    clear hx2
    have p0 := t.out.cell (o := 0) (by omega)
    have f0 := t.out.free (o := 0) (by omega)
    have p1 := t.out.cell (o := 1) (by omega)
    have f1 := t.out.free (o := 1) (by omega)
    have p2 := t.out.cell (o := 2) (by omega)
    have f2 := t.out.free (o := 2) (by omega)
    have kk := hid (put3 t.out (.int .i64 (diedR 1).1) (.int .i64 (diedR 1).2.1) (.string (diedR 1).2.2.1))
    have Fin := hid (((hE.out.set (p := ⟨w.heap.size + 1 + 1, 0, none⟩) (show w.heap.size ≤ w.heap.size + 1 + 1 by omega) (.int .i64 (diedR 1).1)).set (p := ⟨w.heap.size + 1 + 1, 1, none⟩) (show w.heap.size ≤ w.heap.size + 1 + 1 by omega) (.int .i64 (diedR 1).2.1)).set (p := ⟨w.heap.size + 1 + 1, 2, none⟩) (show w.heap.size ≤ w.heap.size + 1 + 1 by omega) (.string (diedR 1).2.2.1))
    clear t
    clear c0_2_0 c0_2_1 c0_2_2
    go_wp2
    obtain ⟨k0, k1, k2⟩ := kk.out
    exact bodyPost_ret (v := .tuple #[.agg #[.int .i64 (diedR 1).1, .int .i64 (diedR 1).2.1, .string (diedR 1).2.2.1], .int .i64 (diedR 1).2.2.2]) (by simp [results, Tryd.results68, go_sem, k0, k1, k2]) rfl ⟨rfl, Fin.out⟩
  · clear c1 c2 c3 c4 hk hk'
    go_enter Tryd.func68, Tryd.ntmps68
    go_upto_region 1 with fail
    generalize hw_ : (((w.alloc (.cells #[.int .i64 k, .int .i64 n, .string s] 23)).alloc (.cells #[.int .i64 k', .int .i64 n', .string s'] 23)).alloc (.cells #[.int .i64 0, .int .i64 0, .string { data := #[] }] 23)) = w1
    have hx1 : Ext (((w.alloc (.cells #[.int .i64 k, .int .i64 n, .string s] 23)).alloc (.cells #[.int .i64 k', .int .i64 n', .string s'] 23)).alloc (.cells #[.int .i64 0, .int .i64 0, .string { data := #[] }] 23)) w1 := by rw [hw_]; exact Ext.refl _
    clear hw_
    have t := hid (There.ext (There.newb ((w.alloc (.cells #[.int .i64 k, .int .i64 n, .string s] 23)).alloc (.cells #[.int .i64 k', .int .i64 n', .string s'] 23)) #[.int .i64 0, .int .i64 0, .string { data := #[] }] 23 (n := 3) (b := w.heap.size + 1 + 1) (by simp) (by decide)) hx1)
    have c0_0_0 : w1.cell? ⟨w.heap.size, 0, none⟩ = some (.int .i64 k) := hx1.cell (by go_simp)
    have c0_0_1 : w1.cell? ⟨w.heap.size, 1, none⟩ = some (.int .i64 n) := hx1.cell (by go_simp)
    have c0_0_2 : w1.cell? ⟨w.heap.size, 2, none⟩ = some (.string s) := hx1.cell (by go_simp)
    have c0_1_0 : w1.cell? ⟨w.heap.size + 1, 0, none⟩ = some (.int .i64 k') := hx1.cell (by go_simp)
    have c0_1_1 : w1.cell? ⟨w.heap.size + 1, 1, none⟩ = some (.int .i64 n') := hx1.cell (by go_simp)
    have c0_1_2 : w1.cell? ⟨w.heap.size + 1, 2, none⟩ = some (.string s') := hx1.cell (by go_simp)
    have c0_2_0 : w1.cell? ⟨w.heap.size + 1 + 1, 0, none⟩ = some (.int .i64 0) := hx1.cell (by go_simp)
    have c0_2_1 : w1.cell? ⟨w.heap.size + 1 + 1, 1, none⟩ = some (.int .i64 0) := hx1.cell (by go_simp)
    have c0_2_2 : w1.cell? ⟨w.heap.size + 1 + 1, 2, none⟩ = some (.string { data := #[] }) := hx1.cell (by go_simp)
    have hE := hid (Ext.trans ((((Ext.refl w).alloc_right _).alloc_right _).alloc_right _) hx1)
    have lt_1 : w.heap.size < w1.heap.size := World.block_lt_of_cell? w1 _ c0_0_0
    have lt_2 : w.heap.size + 1 < w1.heap.size := World.block_lt_of_cell? w1 _ c0_1_0
    have lt_3 : w.heap.size + 1 + 1 < w1.heap.size := World.block_lt_of_cell? w1 _ c0_2_0
    clear hx1
    go_wp2_with fail
    refine (hno.out _).mono ?_
    rintro e w2 ⟨rfl, hx2⟩
    replace t := hid (There.ext t.out hx2)
    replace c0_0_0 := hx2.cell c0_0_0
    replace c0_0_1 := hx2.cell c0_0_1
    replace c0_0_2 := hx2.cell c0_0_2
    replace c0_1_0 := hx2.cell c0_1_0
    replace c0_1_1 := hx2.cell c0_1_1
    replace c0_1_2 := hx2.cell c0_1_2
    replace c0_2_0 := hx2.cell c0_2_0
    replace c0_2_1 := hx2.cell c0_2_1
    replace c0_2_2 := hx2.cell c0_2_2
    replace hE := hid (Ext.trans hE.out hx2)
    clear lt_1
    have lt_1 : w.heap.size < w2.heap.size := World.block_lt_of_cell? w2 _ c0_0_0
    clear lt_2
    have lt_2 : w.heap.size + 1 < w2.heap.size := World.block_lt_of_cell? w2 _ c0_1_0
    clear lt_3
    have lt_3 : w.heap.size + 1 + 1 < w2.heap.size := World.block_lt_of_cell? w2 _ c0_2_0
    clear hx2
    have p0 := t.out.cell (o := 0) (by omega)
    have f0 := t.out.free (o := 0) (by omega)
    have p1 := t.out.cell (o := 1) (by omega)
    have f1 := t.out.free (o := 1) (by omega)
    have p2 := t.out.cell (o := 2) (by omega)
    have f2 := t.out.free (o := 2) (by omega)
    have kk := hid (put3 t.out (.int .i64 (diedR 1).1) (.int .i64 (diedR 1).2.1) (.string (diedR 1).2.2.1))
    have Fin := hid (((hE.out.set (p := ⟨w.heap.size + 1 + 1, 0, none⟩) (show w.heap.size ≤ w.heap.size + 1 + 1 by omega) (.int .i64 (diedR 1).1)).set (p := ⟨w.heap.size + 1 + 1, 1, none⟩) (show w.heap.size ≤ w.heap.size + 1 + 1 by omega) (.int .i64 (diedR 1).2.1)).set (p := ⟨w.heap.size + 1 + 1, 2, none⟩) (show w.heap.size ≤ w.heap.size + 1 + 1 by omega) (.string (diedR 1).2.2.1))
    clear t
    clear c0_2_0 c0_2_1 c0_2_2
    go_wp2
    obtain ⟨k0, k1, k2⟩ := kk.out
    exact bodyPost_ret (v := .tuple #[.agg #[.int .i64 (diedR 1).1, .int .i64 (diedR 1).2.1, .string (diedR 1).2.2.1], .int .i64 (diedR 1).2.2.2]) (by simp [results, Tryd.results68, go_sem, k0, k1, k2]) rfl ⟨rfl, Fin.out⟩
set_option maxRecDepth 100000 in
set_option maxHeartbeats 2000000 in
theorem Done_2 (k n : Int) (s : ByteArray) (k' n' : Int) (s' : ByteArray) (w : World) (h1 : Bd k n s) (h2 : Bd k' n' s') (hk : k ≠ 0) (hk' : k' ≠ 0) : Calls Tryd.prog 68 #[.int .i64 2, vV k n s, vV k' n' s'] w (GiveP (wholeR mulR k n k' n') w) := by
  have e0 : (k == 0) = false := by simpa using hk
  have e0' : (k' == 0) = false := by simpa using hk'
  unfold vV
  by_cases c1 : k = 2 ∧ k' = 2
  · obtain ⟨rfl, rfl⟩ := c1
    rw [show wholeR mulR 2 n 2 n' = mulR n n' by unfold wholeR; rw [if_pos ⟨rfl, rfl⟩]]
    go_enter Tryd.func68, Tryd.ntmps68
    go_upto_region 1 with fail
    generalize hw_ : (((w.alloc (.cells #[.int .i64 2, .int .i64 n, .string s] 23)).alloc (.cells #[.int .i64 2, .int .i64 n', .string s'] 23)).alloc (.cells #[.int .i64 0, .int .i64 0, .string { data := #[] }] 23)) = w1
    have hx1 : Ext (((w.alloc (.cells #[.int .i64 2, .int .i64 n, .string s] 23)).alloc (.cells #[.int .i64 2, .int .i64 n', .string s'] 23)).alloc (.cells #[.int .i64 0, .int .i64 0, .string { data := #[] }] 23)) w1 := by rw [hw_]; exact Ext.refl _
    clear hw_
    have t := hid (There.ext (There.newb ((w.alloc (.cells #[.int .i64 2, .int .i64 n, .string s] 23)).alloc (.cells #[.int .i64 2, .int .i64 n', .string s'] 23)) #[.int .i64 0, .int .i64 0, .string { data := #[] }] 23 (n := 3) (b := w.heap.size + 1 + 1) (by simp) (by decide)) hx1)
    have c0_0_0 : w1.cell? ⟨w.heap.size, 0, none⟩ = some (.int .i64 2) := hx1.cell (by go_simp)
    have c0_0_1 : w1.cell? ⟨w.heap.size, 1, none⟩ = some (.int .i64 n) := hx1.cell (by go_simp)
    have c0_0_2 : w1.cell? ⟨w.heap.size, 2, none⟩ = some (.string s) := hx1.cell (by go_simp)
    have c0_1_0 : w1.cell? ⟨w.heap.size + 1, 0, none⟩ = some (.int .i64 2) := hx1.cell (by go_simp)
    have c0_1_1 : w1.cell? ⟨w.heap.size + 1, 1, none⟩ = some (.int .i64 n') := hx1.cell (by go_simp)
    have c0_1_2 : w1.cell? ⟨w.heap.size + 1, 2, none⟩ = some (.string s') := hx1.cell (by go_simp)
    have c0_2_0 : w1.cell? ⟨w.heap.size + 1 + 1, 0, none⟩ = some (.int .i64 0) := hx1.cell (by go_simp)
    have c0_2_1 : w1.cell? ⟨w.heap.size + 1 + 1, 1, none⟩ = some (.int .i64 0) := hx1.cell (by go_simp)
    have c0_2_2 : w1.cell? ⟨w.heap.size + 1 + 1, 2, none⟩ = some (.string { data := #[] }) := hx1.cell (by go_simp)
    have hE := hid (Ext.trans ((((Ext.refl w).alloc_right _).alloc_right _).alloc_right _) hx1)
    have lt_1 : w.heap.size < w1.heap.size := World.block_lt_of_cell? w1 _ c0_0_0
    have lt_2 : w.heap.size + 1 < w1.heap.size := World.block_lt_of_cell? w1 _ c0_1_0
    have lt_3 : w.heap.size + 1 + 1 < w1.heap.size := World.block_lt_of_cell? w1 _ c0_2_0
    clear hx1
    go_wp2_with fail
    refine (numbers_2 n n' _ h1.num h2.num).mono ?_
    rintro e w2 ⟨rfl, hx2⟩
    replace t := hid (There.ext t.out hx2)
    replace c0_0_0 := hx2.cell c0_0_0
    replace c0_0_1 := hx2.cell c0_0_1
    replace c0_0_2 := hx2.cell c0_0_2
    replace c0_1_0 := hx2.cell c0_1_0
    replace c0_1_1 := hx2.cell c0_1_1
    replace c0_1_2 := hx2.cell c0_1_2
    replace c0_2_0 := hx2.cell c0_2_0
    replace c0_2_1 := hx2.cell c0_2_1
    replace c0_2_2 := hx2.cell c0_2_2
    replace hE := hid (Ext.trans hE.out hx2)
    clear lt_1
    have lt_1 : w.heap.size < w2.heap.size := World.block_lt_of_cell? w2 _ c0_0_0
    clear lt_2
    have lt_2 : w.heap.size + 1 < w2.heap.size := World.block_lt_of_cell? w2 _ c0_1_0
    clear lt_3
    have lt_3 : w.heap.size + 1 + 1 < w2.heap.size := World.block_lt_of_cell? w2 _ c0_2_0
    clear hx2
    have p0 := t.out.cell (o := 0) (by omega)
    have f0 := t.out.free (o := 0) (by omega)
    have p1 := t.out.cell (o := 1) (by omega)
    have f1 := t.out.free (o := 1) (by omega)
    have p2 := t.out.cell (o := 2) (by omega)
    have f2 := t.out.free (o := 2) (by omega)
    have kk := hid (put3 t.out (.int .i64 (mulR n n').1) (.int .i64 (mulR n n').2.1) (.string (mulR n n').2.2.1))
    have Fin := hid (((hE.out.set (p := ⟨w.heap.size + 1 + 1, 0, none⟩) (show w.heap.size ≤ w.heap.size + 1 + 1 by omega) (.int .i64 (mulR n n').1)).set (p := ⟨w.heap.size + 1 + 1, 1, none⟩) (show w.heap.size ≤ w.heap.size + 1 + 1 by omega) (.int .i64 (mulR n n').2.1)).set (p := ⟨w.heap.size + 1 + 1, 2, none⟩) (show w.heap.size ≤ w.heap.size + 1 + 1 by omega) (.string (mulR n n').2.2.1))
    clear t
    clear c0_2_0 c0_2_1 c0_2_2
    go_wp2
    obtain ⟨k0, k1, k2⟩ := kk.out
    exact bodyPost_ret (v := .tuple #[.agg #[.int .i64 (mulR n n').1, .int .i64 (mulR n n').2.1, .string (mulR n n').2.2.1], .int .i64 (mulR n n').2.2.2]) (by simp [results, Tryd.results68, go_sem, k0, k1, k2]) rfl ⟨rfl, Fin.out⟩
  rw [show wholeR mulR k n k' n' = diedR 1 by unfold wholeR; rw [if_neg c1]]
  have hno := hid (fun w => others_no 2 k n s k' n' s' w (bd_kind h1 hk) (bd_kind h2 hk') (by rintro ⟨h, _⟩; exact absurd h (by decide)) (by rintro ⟨h, _⟩; exact absurd h (by decide)))
  rcases Bool.eq_false_or_eq_true (k == 2) with g | g
  · have g2 : (k' == 2) = false := by
      have a : k = 2 := by simpa using g
      simpa using (show k' ≠ 2 from fun b => c1 ⟨a, b⟩)
    clear c1 hk hk'
    go_enter Tryd.func68, Tryd.ntmps68
    go_upto_region 1 with fail
    generalize hw_ : (((w.alloc (.cells #[.int .i64 k, .int .i64 n, .string s] 23)).alloc (.cells #[.int .i64 k', .int .i64 n', .string s'] 23)).alloc (.cells #[.int .i64 0, .int .i64 0, .string { data := #[] }] 23)) = w1
    have hx1 : Ext (((w.alloc (.cells #[.int .i64 k, .int .i64 n, .string s] 23)).alloc (.cells #[.int .i64 k', .int .i64 n', .string s'] 23)).alloc (.cells #[.int .i64 0, .int .i64 0, .string { data := #[] }] 23)) w1 := by rw [hw_]; exact Ext.refl _
    clear hw_
    have t := hid (There.ext (There.newb ((w.alloc (.cells #[.int .i64 k, .int .i64 n, .string s] 23)).alloc (.cells #[.int .i64 k', .int .i64 n', .string s'] 23)) #[.int .i64 0, .int .i64 0, .string { data := #[] }] 23 (n := 3) (b := w.heap.size + 1 + 1) (by simp) (by decide)) hx1)
    have c0_0_0 : w1.cell? ⟨w.heap.size, 0, none⟩ = some (.int .i64 k) := hx1.cell (by go_simp)
    have c0_0_1 : w1.cell? ⟨w.heap.size, 1, none⟩ = some (.int .i64 n) := hx1.cell (by go_simp)
    have c0_0_2 : w1.cell? ⟨w.heap.size, 2, none⟩ = some (.string s) := hx1.cell (by go_simp)
    have c0_1_0 : w1.cell? ⟨w.heap.size + 1, 0, none⟩ = some (.int .i64 k') := hx1.cell (by go_simp)
    have c0_1_1 : w1.cell? ⟨w.heap.size + 1, 1, none⟩ = some (.int .i64 n') := hx1.cell (by go_simp)
    have c0_1_2 : w1.cell? ⟨w.heap.size + 1, 2, none⟩ = some (.string s') := hx1.cell (by go_simp)
    have c0_2_0 : w1.cell? ⟨w.heap.size + 1 + 1, 0, none⟩ = some (.int .i64 0) := hx1.cell (by go_simp)
    have c0_2_1 : w1.cell? ⟨w.heap.size + 1 + 1, 1, none⟩ = some (.int .i64 0) := hx1.cell (by go_simp)
    have c0_2_2 : w1.cell? ⟨w.heap.size + 1 + 1, 2, none⟩ = some (.string { data := #[] }) := hx1.cell (by go_simp)
    have hE := hid (Ext.trans ((((Ext.refl w).alloc_right _).alloc_right _).alloc_right _) hx1)
    have lt_1 : w.heap.size < w1.heap.size := World.block_lt_of_cell? w1 _ c0_0_0
    have lt_2 : w.heap.size + 1 < w1.heap.size := World.block_lt_of_cell? w1 _ c0_1_0
    have lt_3 : w.heap.size + 1 + 1 < w1.heap.size := World.block_lt_of_cell? w1 _ c0_2_0
    clear hx1
    go_wp2_with fail
    refine (hno.out _).mono ?_
    rintro e w2 ⟨rfl, hx2⟩
    replace t := hid (There.ext t.out hx2)
    replace c0_0_0 := hx2.cell c0_0_0
    replace c0_0_1 := hx2.cell c0_0_1
    replace c0_0_2 := hx2.cell c0_0_2
    replace c0_1_0 := hx2.cell c0_1_0
    replace c0_1_1 := hx2.cell c0_1_1
    replace c0_1_2 := hx2.cell c0_1_2
    replace c0_2_0 := hx2.cell c0_2_0
    replace c0_2_1 := hx2.cell c0_2_1
    replace c0_2_2 := hx2.cell c0_2_2
    replace hE := hid (Ext.trans hE.out hx2)
    clear lt_1
    have lt_1 : w.heap.size < w2.heap.size := World.block_lt_of_cell? w2 _ c0_0_0
    clear lt_2
    have lt_2 : w.heap.size + 1 < w2.heap.size := World.block_lt_of_cell? w2 _ c0_1_0
    clear lt_3
    have lt_3 : w.heap.size + 1 + 1 < w2.heap.size := World.block_lt_of_cell? w2 _ c0_2_0
    clear hx2
    have p0 := t.out.cell (o := 0) (by omega)
    have f0 := t.out.free (o := 0) (by omega)
    have p1 := t.out.cell (o := 1) (by omega)
    have f1 := t.out.free (o := 1) (by omega)
    have p2 := t.out.cell (o := 2) (by omega)
    have f2 := t.out.free (o := 2) (by omega)
    have kk := hid (put3 t.out (.int .i64 (diedR 1).1) (.int .i64 (diedR 1).2.1) (.string (diedR 1).2.2.1))
    have Fin := hid (((hE.out.set (p := ⟨w.heap.size + 1 + 1, 0, none⟩) (show w.heap.size ≤ w.heap.size + 1 + 1 by omega) (.int .i64 (diedR 1).1)).set (p := ⟨w.heap.size + 1 + 1, 1, none⟩) (show w.heap.size ≤ w.heap.size + 1 + 1 by omega) (.int .i64 (diedR 1).2.1)).set (p := ⟨w.heap.size + 1 + 1, 2, none⟩) (show w.heap.size ≤ w.heap.size + 1 + 1 by omega) (.string (diedR 1).2.2.1))
    clear t
    clear c0_2_0 c0_2_1 c0_2_2
    go_wp2
    obtain ⟨k0, k1, k2⟩ := kk.out
    exact bodyPost_ret (v := .tuple #[.agg #[.int .i64 (diedR 1).1, .int .i64 (diedR 1).2.1, .string (diedR 1).2.2.1], .int .i64 (diedR 1).2.2.2]) (by simp [results, Tryd.results68, go_sem, k0, k1, k2]) rfl ⟨rfl, Fin.out⟩
  · clear c1 hk hk'
    go_enter Tryd.func68, Tryd.ntmps68
    go_upto_region 1 with fail
    generalize hw_ : (((w.alloc (.cells #[.int .i64 k, .int .i64 n, .string s] 23)).alloc (.cells #[.int .i64 k', .int .i64 n', .string s'] 23)).alloc (.cells #[.int .i64 0, .int .i64 0, .string { data := #[] }] 23)) = w1
    have hx1 : Ext (((w.alloc (.cells #[.int .i64 k, .int .i64 n, .string s] 23)).alloc (.cells #[.int .i64 k', .int .i64 n', .string s'] 23)).alloc (.cells #[.int .i64 0, .int .i64 0, .string { data := #[] }] 23)) w1 := by rw [hw_]; exact Ext.refl _
    clear hw_
    have t := hid (There.ext (There.newb ((w.alloc (.cells #[.int .i64 k, .int .i64 n, .string s] 23)).alloc (.cells #[.int .i64 k', .int .i64 n', .string s'] 23)) #[.int .i64 0, .int .i64 0, .string { data := #[] }] 23 (n := 3) (b := w.heap.size + 1 + 1) (by simp) (by decide)) hx1)
    have c0_0_0 : w1.cell? ⟨w.heap.size, 0, none⟩ = some (.int .i64 k) := hx1.cell (by go_simp)
    have c0_0_1 : w1.cell? ⟨w.heap.size, 1, none⟩ = some (.int .i64 n) := hx1.cell (by go_simp)
    have c0_0_2 : w1.cell? ⟨w.heap.size, 2, none⟩ = some (.string s) := hx1.cell (by go_simp)
    have c0_1_0 : w1.cell? ⟨w.heap.size + 1, 0, none⟩ = some (.int .i64 k') := hx1.cell (by go_simp)
    have c0_1_1 : w1.cell? ⟨w.heap.size + 1, 1, none⟩ = some (.int .i64 n') := hx1.cell (by go_simp)
    have c0_1_2 : w1.cell? ⟨w.heap.size + 1, 2, none⟩ = some (.string s') := hx1.cell (by go_simp)
    have c0_2_0 : w1.cell? ⟨w.heap.size + 1 + 1, 0, none⟩ = some (.int .i64 0) := hx1.cell (by go_simp)
    have c0_2_1 : w1.cell? ⟨w.heap.size + 1 + 1, 1, none⟩ = some (.int .i64 0) := hx1.cell (by go_simp)
    have c0_2_2 : w1.cell? ⟨w.heap.size + 1 + 1, 2, none⟩ = some (.string { data := #[] }) := hx1.cell (by go_simp)
    have hE := hid (Ext.trans ((((Ext.refl w).alloc_right _).alloc_right _).alloc_right _) hx1)
    have lt_1 : w.heap.size < w1.heap.size := World.block_lt_of_cell? w1 _ c0_0_0
    have lt_2 : w.heap.size + 1 < w1.heap.size := World.block_lt_of_cell? w1 _ c0_1_0
    have lt_3 : w.heap.size + 1 + 1 < w1.heap.size := World.block_lt_of_cell? w1 _ c0_2_0
    clear hx1
    go_wp2_with fail
    refine (hno.out _).mono ?_
    rintro e w2 ⟨rfl, hx2⟩
    replace t := hid (There.ext t.out hx2)
    replace c0_0_0 := hx2.cell c0_0_0
    replace c0_0_1 := hx2.cell c0_0_1
    replace c0_0_2 := hx2.cell c0_0_2
    replace c0_1_0 := hx2.cell c0_1_0
    replace c0_1_1 := hx2.cell c0_1_1
    replace c0_1_2 := hx2.cell c0_1_2
    replace c0_2_0 := hx2.cell c0_2_0
    replace c0_2_1 := hx2.cell c0_2_1
    replace c0_2_2 := hx2.cell c0_2_2
    replace hE := hid (Ext.trans hE.out hx2)
    clear lt_1
    have lt_1 : w.heap.size < w2.heap.size := World.block_lt_of_cell? w2 _ c0_0_0
    clear lt_2
    have lt_2 : w.heap.size + 1 < w2.heap.size := World.block_lt_of_cell? w2 _ c0_1_0
    clear lt_3
    have lt_3 : w.heap.size + 1 + 1 < w2.heap.size := World.block_lt_of_cell? w2 _ c0_2_0
    clear hx2
    have p0 := t.out.cell (o := 0) (by omega)
    have f0 := t.out.free (o := 0) (by omega)
    have p1 := t.out.cell (o := 1) (by omega)
    have f1 := t.out.free (o := 1) (by omega)
    have p2 := t.out.cell (o := 2) (by omega)
    have f2 := t.out.free (o := 2) (by omega)
    have kk := hid (put3 t.out (.int .i64 (diedR 1).1) (.int .i64 (diedR 1).2.1) (.string (diedR 1).2.2.1))
    have Fin := hid (((hE.out.set (p := ⟨w.heap.size + 1 + 1, 0, none⟩) (show w.heap.size ≤ w.heap.size + 1 + 1 by omega) (.int .i64 (diedR 1).1)).set (p := ⟨w.heap.size + 1 + 1, 1, none⟩) (show w.heap.size ≤ w.heap.size + 1 + 1 by omega) (.int .i64 (diedR 1).2.1)).set (p := ⟨w.heap.size + 1 + 1, 2, none⟩) (show w.heap.size ≤ w.heap.size + 1 + 1 by omega) (.string (diedR 1).2.2.1))
    clear t
    clear c0_2_0 c0_2_1 c0_2_2
    go_wp2
    obtain ⟨k0, k1, k2⟩ := kk.out
    exact bodyPost_ret (v := .tuple #[.agg #[.int .i64 (diedR 1).1, .int .i64 (diedR 1).2.1, .string (diedR 1).2.2.1], .int .i64 (diedR 1).2.2.2]) (by simp [results, Tryd.results68, go_sem, k0, k1, k2]) rfl ⟨rfl, Fin.out⟩
set_option maxRecDepth 100000 in
set_option maxHeartbeats 2000000 in
theorem Done_3 (k n : Int) (s : ByteArray) (k' n' : Int) (s' : ByteArray) (w : World) (h1 : Bd k n s) (h2 : Bd k' n' s') (hk : k ≠ 0) (hk' : k' ≠ 0) : Calls Tryd.prog 68 #[.int .i64 3, vV k n s, vV k' n' s'] w (GiveP (wholeR divR k n k' n') w) := by
  have e0 : (k == 0) = false := by simpa using hk
  have e0' : (k' == 0) = false := by simpa using hk'
  unfold vV
  by_cases c1 : k = 2 ∧ k' = 2
  · obtain ⟨rfl, rfl⟩ := c1
    rw [show wholeR divR 2 n 2 n' = divR n n' by unfold wholeR; rw [if_pos ⟨rfl, rfl⟩]]
    go_enter Tryd.func68, Tryd.ntmps68
    go_upto_region 1 with fail
    generalize hw_ : (((w.alloc (.cells #[.int .i64 2, .int .i64 n, .string s] 23)).alloc (.cells #[.int .i64 2, .int .i64 n', .string s'] 23)).alloc (.cells #[.int .i64 0, .int .i64 0, .string { data := #[] }] 23)) = w1
    have hx1 : Ext (((w.alloc (.cells #[.int .i64 2, .int .i64 n, .string s] 23)).alloc (.cells #[.int .i64 2, .int .i64 n', .string s'] 23)).alloc (.cells #[.int .i64 0, .int .i64 0, .string { data := #[] }] 23)) w1 := by rw [hw_]; exact Ext.refl _
    clear hw_
    have t := hid (There.ext (There.newb ((w.alloc (.cells #[.int .i64 2, .int .i64 n, .string s] 23)).alloc (.cells #[.int .i64 2, .int .i64 n', .string s'] 23)) #[.int .i64 0, .int .i64 0, .string { data := #[] }] 23 (n := 3) (b := w.heap.size + 1 + 1) (by simp) (by decide)) hx1)
    have c0_0_0 : w1.cell? ⟨w.heap.size, 0, none⟩ = some (.int .i64 2) := hx1.cell (by go_simp)
    have c0_0_1 : w1.cell? ⟨w.heap.size, 1, none⟩ = some (.int .i64 n) := hx1.cell (by go_simp)
    have c0_0_2 : w1.cell? ⟨w.heap.size, 2, none⟩ = some (.string s) := hx1.cell (by go_simp)
    have c0_1_0 : w1.cell? ⟨w.heap.size + 1, 0, none⟩ = some (.int .i64 2) := hx1.cell (by go_simp)
    have c0_1_1 : w1.cell? ⟨w.heap.size + 1, 1, none⟩ = some (.int .i64 n') := hx1.cell (by go_simp)
    have c0_1_2 : w1.cell? ⟨w.heap.size + 1, 2, none⟩ = some (.string s') := hx1.cell (by go_simp)
    have c0_2_0 : w1.cell? ⟨w.heap.size + 1 + 1, 0, none⟩ = some (.int .i64 0) := hx1.cell (by go_simp)
    have c0_2_1 : w1.cell? ⟨w.heap.size + 1 + 1, 1, none⟩ = some (.int .i64 0) := hx1.cell (by go_simp)
    have c0_2_2 : w1.cell? ⟨w.heap.size + 1 + 1, 2, none⟩ = some (.string { data := #[] }) := hx1.cell (by go_simp)
    have hE := hid (Ext.trans ((((Ext.refl w).alloc_right _).alloc_right _).alloc_right _) hx1)
    have lt_1 : w.heap.size < w1.heap.size := World.block_lt_of_cell? w1 _ c0_0_0
    have lt_2 : w.heap.size + 1 < w1.heap.size := World.block_lt_of_cell? w1 _ c0_1_0
    have lt_3 : w.heap.size + 1 + 1 < w1.heap.size := World.block_lt_of_cell? w1 _ c0_2_0
    clear hx1
    go_wp2_with fail
    refine (numbers_3 n n' _ h1.num h2.num).mono ?_
    rintro e w2 ⟨rfl, hx2⟩
    replace t := hid (There.ext t.out hx2)
    replace c0_0_0 := hx2.cell c0_0_0
    replace c0_0_1 := hx2.cell c0_0_1
    replace c0_0_2 := hx2.cell c0_0_2
    replace c0_1_0 := hx2.cell c0_1_0
    replace c0_1_1 := hx2.cell c0_1_1
    replace c0_1_2 := hx2.cell c0_1_2
    replace c0_2_0 := hx2.cell c0_2_0
    replace c0_2_1 := hx2.cell c0_2_1
    replace c0_2_2 := hx2.cell c0_2_2
    replace hE := hid (Ext.trans hE.out hx2)
    clear lt_1
    have lt_1 : w.heap.size < w2.heap.size := World.block_lt_of_cell? w2 _ c0_0_0
    clear lt_2
    have lt_2 : w.heap.size + 1 < w2.heap.size := World.block_lt_of_cell? w2 _ c0_1_0
    clear lt_3
    have lt_3 : w.heap.size + 1 + 1 < w2.heap.size := World.block_lt_of_cell? w2 _ c0_2_0
    clear hx2
    have p0 := t.out.cell (o := 0) (by omega)
    have f0 := t.out.free (o := 0) (by omega)
    have p1 := t.out.cell (o := 1) (by omega)
    have f1 := t.out.free (o := 1) (by omega)
    have p2 := t.out.cell (o := 2) (by omega)
    have f2 := t.out.free (o := 2) (by omega)
    have kk := hid (put3 t.out (.int .i64 (divR n n').1) (.int .i64 (divR n n').2.1) (.string (divR n n').2.2.1))
    have Fin := hid (((hE.out.set (p := ⟨w.heap.size + 1 + 1, 0, none⟩) (show w.heap.size ≤ w.heap.size + 1 + 1 by omega) (.int .i64 (divR n n').1)).set (p := ⟨w.heap.size + 1 + 1, 1, none⟩) (show w.heap.size ≤ w.heap.size + 1 + 1 by omega) (.int .i64 (divR n n').2.1)).set (p := ⟨w.heap.size + 1 + 1, 2, none⟩) (show w.heap.size ≤ w.heap.size + 1 + 1 by omega) (.string (divR n n').2.2.1))
    clear t
    clear c0_2_0 c0_2_1 c0_2_2
    go_wp2
    obtain ⟨k0, k1, k2⟩ := kk.out
    exact bodyPost_ret (v := .tuple #[.agg #[.int .i64 (divR n n').1, .int .i64 (divR n n').2.1, .string (divR n n').2.2.1], .int .i64 (divR n n').2.2.2]) (by simp [results, Tryd.results68, go_sem, k0, k1, k2]) rfl ⟨rfl, Fin.out⟩
  rw [show wholeR divR k n k' n' = diedR 1 by unfold wholeR; rw [if_neg c1]]
  have hno := hid (fun w => others_no 3 k n s k' n' s' w (bd_kind h1 hk) (bd_kind h2 hk') (by rintro ⟨h, _⟩; exact absurd h (by decide)) (by rintro ⟨h, _⟩; exact absurd h (by decide)))
  rcases Bool.eq_false_or_eq_true (k == 2) with g | g
  · have g2 : (k' == 2) = false := by
      have a : k = 2 := by simpa using g
      simpa using (show k' ≠ 2 from fun b => c1 ⟨a, b⟩)
    clear c1 hk hk'
    go_enter Tryd.func68, Tryd.ntmps68
    go_upto_region 1 with fail
    generalize hw_ : (((w.alloc (.cells #[.int .i64 k, .int .i64 n, .string s] 23)).alloc (.cells #[.int .i64 k', .int .i64 n', .string s'] 23)).alloc (.cells #[.int .i64 0, .int .i64 0, .string { data := #[] }] 23)) = w1
    have hx1 : Ext (((w.alloc (.cells #[.int .i64 k, .int .i64 n, .string s] 23)).alloc (.cells #[.int .i64 k', .int .i64 n', .string s'] 23)).alloc (.cells #[.int .i64 0, .int .i64 0, .string { data := #[] }] 23)) w1 := by rw [hw_]; exact Ext.refl _
    clear hw_
    have t := hid (There.ext (There.newb ((w.alloc (.cells #[.int .i64 k, .int .i64 n, .string s] 23)).alloc (.cells #[.int .i64 k', .int .i64 n', .string s'] 23)) #[.int .i64 0, .int .i64 0, .string { data := #[] }] 23 (n := 3) (b := w.heap.size + 1 + 1) (by simp) (by decide)) hx1)
    have c0_0_0 : w1.cell? ⟨w.heap.size, 0, none⟩ = some (.int .i64 k) := hx1.cell (by go_simp)
    have c0_0_1 : w1.cell? ⟨w.heap.size, 1, none⟩ = some (.int .i64 n) := hx1.cell (by go_simp)
    have c0_0_2 : w1.cell? ⟨w.heap.size, 2, none⟩ = some (.string s) := hx1.cell (by go_simp)
    have c0_1_0 : w1.cell? ⟨w.heap.size + 1, 0, none⟩ = some (.int .i64 k') := hx1.cell (by go_simp)
    have c0_1_1 : w1.cell? ⟨w.heap.size + 1, 1, none⟩ = some (.int .i64 n') := hx1.cell (by go_simp)
    have c0_1_2 : w1.cell? ⟨w.heap.size + 1, 2, none⟩ = some (.string s') := hx1.cell (by go_simp)
    have c0_2_0 : w1.cell? ⟨w.heap.size + 1 + 1, 0, none⟩ = some (.int .i64 0) := hx1.cell (by go_simp)
    have c0_2_1 : w1.cell? ⟨w.heap.size + 1 + 1, 1, none⟩ = some (.int .i64 0) := hx1.cell (by go_simp)
    have c0_2_2 : w1.cell? ⟨w.heap.size + 1 + 1, 2, none⟩ = some (.string { data := #[] }) := hx1.cell (by go_simp)
    have hE := hid (Ext.trans ((((Ext.refl w).alloc_right _).alloc_right _).alloc_right _) hx1)
    have lt_1 : w.heap.size < w1.heap.size := World.block_lt_of_cell? w1 _ c0_0_0
    have lt_2 : w.heap.size + 1 < w1.heap.size := World.block_lt_of_cell? w1 _ c0_1_0
    have lt_3 : w.heap.size + 1 + 1 < w1.heap.size := World.block_lt_of_cell? w1 _ c0_2_0
    clear hx1
    go_wp2_with fail
    refine (hno.out _).mono ?_
    rintro e w2 ⟨rfl, hx2⟩
    replace t := hid (There.ext t.out hx2)
    replace c0_0_0 := hx2.cell c0_0_0
    replace c0_0_1 := hx2.cell c0_0_1
    replace c0_0_2 := hx2.cell c0_0_2
    replace c0_1_0 := hx2.cell c0_1_0
    replace c0_1_1 := hx2.cell c0_1_1
    replace c0_1_2 := hx2.cell c0_1_2
    replace c0_2_0 := hx2.cell c0_2_0
    replace c0_2_1 := hx2.cell c0_2_1
    replace c0_2_2 := hx2.cell c0_2_2
    replace hE := hid (Ext.trans hE.out hx2)
    clear lt_1
    have lt_1 : w.heap.size < w2.heap.size := World.block_lt_of_cell? w2 _ c0_0_0
    clear lt_2
    have lt_2 : w.heap.size + 1 < w2.heap.size := World.block_lt_of_cell? w2 _ c0_1_0
    clear lt_3
    have lt_3 : w.heap.size + 1 + 1 < w2.heap.size := World.block_lt_of_cell? w2 _ c0_2_0
    clear hx2
    have p0 := t.out.cell (o := 0) (by omega)
    have f0 := t.out.free (o := 0) (by omega)
    have p1 := t.out.cell (o := 1) (by omega)
    have f1 := t.out.free (o := 1) (by omega)
    have p2 := t.out.cell (o := 2) (by omega)
    have f2 := t.out.free (o := 2) (by omega)
    have kk := hid (put3 t.out (.int .i64 (diedR 1).1) (.int .i64 (diedR 1).2.1) (.string (diedR 1).2.2.1))
    have Fin := hid (((hE.out.set (p := ⟨w.heap.size + 1 + 1, 0, none⟩) (show w.heap.size ≤ w.heap.size + 1 + 1 by omega) (.int .i64 (diedR 1).1)).set (p := ⟨w.heap.size + 1 + 1, 1, none⟩) (show w.heap.size ≤ w.heap.size + 1 + 1 by omega) (.int .i64 (diedR 1).2.1)).set (p := ⟨w.heap.size + 1 + 1, 2, none⟩) (show w.heap.size ≤ w.heap.size + 1 + 1 by omega) (.string (diedR 1).2.2.1))
    clear t
    clear c0_2_0 c0_2_1 c0_2_2
    go_wp2
    obtain ⟨k0, k1, k2⟩ := kk.out
    exact bodyPost_ret (v := .tuple #[.agg #[.int .i64 (diedR 1).1, .int .i64 (diedR 1).2.1, .string (diedR 1).2.2.1], .int .i64 (diedR 1).2.2.2]) (by simp [results, Tryd.results68, go_sem, k0, k1, k2]) rfl ⟨rfl, Fin.out⟩
  · clear c1 hk hk'
    go_enter Tryd.func68, Tryd.ntmps68
    go_upto_region 1 with fail
    generalize hw_ : (((w.alloc (.cells #[.int .i64 k, .int .i64 n, .string s] 23)).alloc (.cells #[.int .i64 k', .int .i64 n', .string s'] 23)).alloc (.cells #[.int .i64 0, .int .i64 0, .string { data := #[] }] 23)) = w1
    have hx1 : Ext (((w.alloc (.cells #[.int .i64 k, .int .i64 n, .string s] 23)).alloc (.cells #[.int .i64 k', .int .i64 n', .string s'] 23)).alloc (.cells #[.int .i64 0, .int .i64 0, .string { data := #[] }] 23)) w1 := by rw [hw_]; exact Ext.refl _
    clear hw_
    have t := hid (There.ext (There.newb ((w.alloc (.cells #[.int .i64 k, .int .i64 n, .string s] 23)).alloc (.cells #[.int .i64 k', .int .i64 n', .string s'] 23)) #[.int .i64 0, .int .i64 0, .string { data := #[] }] 23 (n := 3) (b := w.heap.size + 1 + 1) (by simp) (by decide)) hx1)
    have c0_0_0 : w1.cell? ⟨w.heap.size, 0, none⟩ = some (.int .i64 k) := hx1.cell (by go_simp)
    have c0_0_1 : w1.cell? ⟨w.heap.size, 1, none⟩ = some (.int .i64 n) := hx1.cell (by go_simp)
    have c0_0_2 : w1.cell? ⟨w.heap.size, 2, none⟩ = some (.string s) := hx1.cell (by go_simp)
    have c0_1_0 : w1.cell? ⟨w.heap.size + 1, 0, none⟩ = some (.int .i64 k') := hx1.cell (by go_simp)
    have c0_1_1 : w1.cell? ⟨w.heap.size + 1, 1, none⟩ = some (.int .i64 n') := hx1.cell (by go_simp)
    have c0_1_2 : w1.cell? ⟨w.heap.size + 1, 2, none⟩ = some (.string s') := hx1.cell (by go_simp)
    have c0_2_0 : w1.cell? ⟨w.heap.size + 1 + 1, 0, none⟩ = some (.int .i64 0) := hx1.cell (by go_simp)
    have c0_2_1 : w1.cell? ⟨w.heap.size + 1 + 1, 1, none⟩ = some (.int .i64 0) := hx1.cell (by go_simp)
    have c0_2_2 : w1.cell? ⟨w.heap.size + 1 + 1, 2, none⟩ = some (.string { data := #[] }) := hx1.cell (by go_simp)
    have hE := hid (Ext.trans ((((Ext.refl w).alloc_right _).alloc_right _).alloc_right _) hx1)
    have lt_1 : w.heap.size < w1.heap.size := World.block_lt_of_cell? w1 _ c0_0_0
    have lt_2 : w.heap.size + 1 < w1.heap.size := World.block_lt_of_cell? w1 _ c0_1_0
    have lt_3 : w.heap.size + 1 + 1 < w1.heap.size := World.block_lt_of_cell? w1 _ c0_2_0
    clear hx1
    go_wp2_with fail
    refine (hno.out _).mono ?_
    rintro e w2 ⟨rfl, hx2⟩
    replace t := hid (There.ext t.out hx2)
    replace c0_0_0 := hx2.cell c0_0_0
    replace c0_0_1 := hx2.cell c0_0_1
    replace c0_0_2 := hx2.cell c0_0_2
    replace c0_1_0 := hx2.cell c0_1_0
    replace c0_1_1 := hx2.cell c0_1_1
    replace c0_1_2 := hx2.cell c0_1_2
    replace c0_2_0 := hx2.cell c0_2_0
    replace c0_2_1 := hx2.cell c0_2_1
    replace c0_2_2 := hx2.cell c0_2_2
    replace hE := hid (Ext.trans hE.out hx2)
    clear lt_1
    have lt_1 : w.heap.size < w2.heap.size := World.block_lt_of_cell? w2 _ c0_0_0
    clear lt_2
    have lt_2 : w.heap.size + 1 < w2.heap.size := World.block_lt_of_cell? w2 _ c0_1_0
    clear lt_3
    have lt_3 : w.heap.size + 1 + 1 < w2.heap.size := World.block_lt_of_cell? w2 _ c0_2_0
    clear hx2
    have p0 := t.out.cell (o := 0) (by omega)
    have f0 := t.out.free (o := 0) (by omega)
    have p1 := t.out.cell (o := 1) (by omega)
    have f1 := t.out.free (o := 1) (by omega)
    have p2 := t.out.cell (o := 2) (by omega)
    have f2 := t.out.free (o := 2) (by omega)
    have kk := hid (put3 t.out (.int .i64 (diedR 1).1) (.int .i64 (diedR 1).2.1) (.string (diedR 1).2.2.1))
    have Fin := hid (((hE.out.set (p := ⟨w.heap.size + 1 + 1, 0, none⟩) (show w.heap.size ≤ w.heap.size + 1 + 1 by omega) (.int .i64 (diedR 1).1)).set (p := ⟨w.heap.size + 1 + 1, 1, none⟩) (show w.heap.size ≤ w.heap.size + 1 + 1 by omega) (.int .i64 (diedR 1).2.1)).set (p := ⟨w.heap.size + 1 + 1, 2, none⟩) (show w.heap.size ≤ w.heap.size + 1 + 1 by omega) (.string (diedR 1).2.2.1))
    clear t
    clear c0_2_0 c0_2_1 c0_2_2
    go_wp2
    obtain ⟨k0, k1, k2⟩ := kk.out
    exact bodyPost_ret (v := .tuple #[.agg #[.int .i64 (diedR 1).1, .int .i64 (diedR 1).2.1, .string (diedR 1).2.2.1], .int .i64 (diedR 1).2.2.2]) (by simp [results, Tryd.results68, go_sem, k0, k1, k2]) rfl ⟨rfl, Fin.out⟩
set_option maxRecDepth 100000 in
set_option maxHeartbeats 2000000 in
theorem Done_4 (k n : Int) (s : ByteArray) (k' n' : Int) (s' : ByteArray) (w : World) (h1 : Bd k n s) (h2 : Bd k' n' s') (hk : k ≠ 0) (hk' : k' ≠ 0) : Calls Tryd.prog 68 #[.int .i64 4, vV k n s, vV k' n' s'] w (GiveP (wholeR modR k n k' n') w) := by
  have e0 : (k == 0) = false := by simpa using hk
  have e0' : (k' == 0) = false := by simpa using hk'
  unfold vV
  by_cases c1 : k = 2 ∧ k' = 2
  · obtain ⟨rfl, rfl⟩ := c1
    rw [show wholeR modR 2 n 2 n' = modR n n' by unfold wholeR; rw [if_pos ⟨rfl, rfl⟩]]
    go_enter Tryd.func68, Tryd.ntmps68
    go_upto_region 1 with fail
    generalize hw_ : (((w.alloc (.cells #[.int .i64 2, .int .i64 n, .string s] 23)).alloc (.cells #[.int .i64 2, .int .i64 n', .string s'] 23)).alloc (.cells #[.int .i64 0, .int .i64 0, .string { data := #[] }] 23)) = w1
    have hx1 : Ext (((w.alloc (.cells #[.int .i64 2, .int .i64 n, .string s] 23)).alloc (.cells #[.int .i64 2, .int .i64 n', .string s'] 23)).alloc (.cells #[.int .i64 0, .int .i64 0, .string { data := #[] }] 23)) w1 := by rw [hw_]; exact Ext.refl _
    clear hw_
    have t := hid (There.ext (There.newb ((w.alloc (.cells #[.int .i64 2, .int .i64 n, .string s] 23)).alloc (.cells #[.int .i64 2, .int .i64 n', .string s'] 23)) #[.int .i64 0, .int .i64 0, .string { data := #[] }] 23 (n := 3) (b := w.heap.size + 1 + 1) (by simp) (by decide)) hx1)
    have c0_0_0 : w1.cell? ⟨w.heap.size, 0, none⟩ = some (.int .i64 2) := hx1.cell (by go_simp)
    have c0_0_1 : w1.cell? ⟨w.heap.size, 1, none⟩ = some (.int .i64 n) := hx1.cell (by go_simp)
    have c0_0_2 : w1.cell? ⟨w.heap.size, 2, none⟩ = some (.string s) := hx1.cell (by go_simp)
    have c0_1_0 : w1.cell? ⟨w.heap.size + 1, 0, none⟩ = some (.int .i64 2) := hx1.cell (by go_simp)
    have c0_1_1 : w1.cell? ⟨w.heap.size + 1, 1, none⟩ = some (.int .i64 n') := hx1.cell (by go_simp)
    have c0_1_2 : w1.cell? ⟨w.heap.size + 1, 2, none⟩ = some (.string s') := hx1.cell (by go_simp)
    have c0_2_0 : w1.cell? ⟨w.heap.size + 1 + 1, 0, none⟩ = some (.int .i64 0) := hx1.cell (by go_simp)
    have c0_2_1 : w1.cell? ⟨w.heap.size + 1 + 1, 1, none⟩ = some (.int .i64 0) := hx1.cell (by go_simp)
    have c0_2_2 : w1.cell? ⟨w.heap.size + 1 + 1, 2, none⟩ = some (.string { data := #[] }) := hx1.cell (by go_simp)
    have hE := hid (Ext.trans ((((Ext.refl w).alloc_right _).alloc_right _).alloc_right _) hx1)
    have lt_1 : w.heap.size < w1.heap.size := World.block_lt_of_cell? w1 _ c0_0_0
    have lt_2 : w.heap.size + 1 < w1.heap.size := World.block_lt_of_cell? w1 _ c0_1_0
    have lt_3 : w.heap.size + 1 + 1 < w1.heap.size := World.block_lt_of_cell? w1 _ c0_2_0
    clear hx1
    go_wp2_with fail
    refine (numbers_4 n n' _ h1.num h2.num).mono ?_
    rintro e w2 ⟨rfl, hx2⟩
    replace t := hid (There.ext t.out hx2)
    replace c0_0_0 := hx2.cell c0_0_0
    replace c0_0_1 := hx2.cell c0_0_1
    replace c0_0_2 := hx2.cell c0_0_2
    replace c0_1_0 := hx2.cell c0_1_0
    replace c0_1_1 := hx2.cell c0_1_1
    replace c0_1_2 := hx2.cell c0_1_2
    replace c0_2_0 := hx2.cell c0_2_0
    replace c0_2_1 := hx2.cell c0_2_1
    replace c0_2_2 := hx2.cell c0_2_2
    replace hE := hid (Ext.trans hE.out hx2)
    clear lt_1
    have lt_1 : w.heap.size < w2.heap.size := World.block_lt_of_cell? w2 _ c0_0_0
    clear lt_2
    have lt_2 : w.heap.size + 1 < w2.heap.size := World.block_lt_of_cell? w2 _ c0_1_0
    clear lt_3
    have lt_3 : w.heap.size + 1 + 1 < w2.heap.size := World.block_lt_of_cell? w2 _ c0_2_0
    clear hx2
    have p0 := t.out.cell (o := 0) (by omega)
    have f0 := t.out.free (o := 0) (by omega)
    have p1 := t.out.cell (o := 1) (by omega)
    have f1 := t.out.free (o := 1) (by omega)
    have p2 := t.out.cell (o := 2) (by omega)
    have f2 := t.out.free (o := 2) (by omega)
    have kk := hid (put3 t.out (.int .i64 (modR n n').1) (.int .i64 (modR n n').2.1) (.string (modR n n').2.2.1))
    have Fin := hid (((hE.out.set (p := ⟨w.heap.size + 1 + 1, 0, none⟩) (show w.heap.size ≤ w.heap.size + 1 + 1 by omega) (.int .i64 (modR n n').1)).set (p := ⟨w.heap.size + 1 + 1, 1, none⟩) (show w.heap.size ≤ w.heap.size + 1 + 1 by omega) (.int .i64 (modR n n').2.1)).set (p := ⟨w.heap.size + 1 + 1, 2, none⟩) (show w.heap.size ≤ w.heap.size + 1 + 1 by omega) (.string (modR n n').2.2.1))
    clear t
    clear c0_2_0 c0_2_1 c0_2_2
    go_wp2
    obtain ⟨k0, k1, k2⟩ := kk.out
    exact bodyPost_ret (v := .tuple #[.agg #[.int .i64 (modR n n').1, .int .i64 (modR n n').2.1, .string (modR n n').2.2.1], .int .i64 (modR n n').2.2.2]) (by simp [results, Tryd.results68, go_sem, k0, k1, k2]) rfl ⟨rfl, Fin.out⟩
  rw [show wholeR modR k n k' n' = diedR 1 by unfold wholeR; rw [if_neg c1]]
  have hno := hid (fun w => others_no 4 k n s k' n' s' w (bd_kind h1 hk) (bd_kind h2 hk') (by rintro ⟨h, _⟩; exact absurd h (by decide)) (by rintro ⟨h, _⟩; exact absurd h (by decide)))
  rcases Bool.eq_false_or_eq_true (k == 2) with g | g
  · have g2 : (k' == 2) = false := by
      have a : k = 2 := by simpa using g
      simpa using (show k' ≠ 2 from fun b => c1 ⟨a, b⟩)
    clear c1 hk hk'
    go_enter Tryd.func68, Tryd.ntmps68
    go_upto_region 1 with fail
    generalize hw_ : (((w.alloc (.cells #[.int .i64 k, .int .i64 n, .string s] 23)).alloc (.cells #[.int .i64 k', .int .i64 n', .string s'] 23)).alloc (.cells #[.int .i64 0, .int .i64 0, .string { data := #[] }] 23)) = w1
    have hx1 : Ext (((w.alloc (.cells #[.int .i64 k, .int .i64 n, .string s] 23)).alloc (.cells #[.int .i64 k', .int .i64 n', .string s'] 23)).alloc (.cells #[.int .i64 0, .int .i64 0, .string { data := #[] }] 23)) w1 := by rw [hw_]; exact Ext.refl _
    clear hw_
    have t := hid (There.ext (There.newb ((w.alloc (.cells #[.int .i64 k, .int .i64 n, .string s] 23)).alloc (.cells #[.int .i64 k', .int .i64 n', .string s'] 23)) #[.int .i64 0, .int .i64 0, .string { data := #[] }] 23 (n := 3) (b := w.heap.size + 1 + 1) (by simp) (by decide)) hx1)
    have c0_0_0 : w1.cell? ⟨w.heap.size, 0, none⟩ = some (.int .i64 k) := hx1.cell (by go_simp)
    have c0_0_1 : w1.cell? ⟨w.heap.size, 1, none⟩ = some (.int .i64 n) := hx1.cell (by go_simp)
    have c0_0_2 : w1.cell? ⟨w.heap.size, 2, none⟩ = some (.string s) := hx1.cell (by go_simp)
    have c0_1_0 : w1.cell? ⟨w.heap.size + 1, 0, none⟩ = some (.int .i64 k') := hx1.cell (by go_simp)
    have c0_1_1 : w1.cell? ⟨w.heap.size + 1, 1, none⟩ = some (.int .i64 n') := hx1.cell (by go_simp)
    have c0_1_2 : w1.cell? ⟨w.heap.size + 1, 2, none⟩ = some (.string s') := hx1.cell (by go_simp)
    have c0_2_0 : w1.cell? ⟨w.heap.size + 1 + 1, 0, none⟩ = some (.int .i64 0) := hx1.cell (by go_simp)
    have c0_2_1 : w1.cell? ⟨w.heap.size + 1 + 1, 1, none⟩ = some (.int .i64 0) := hx1.cell (by go_simp)
    have c0_2_2 : w1.cell? ⟨w.heap.size + 1 + 1, 2, none⟩ = some (.string { data := #[] }) := hx1.cell (by go_simp)
    have hE := hid (Ext.trans ((((Ext.refl w).alloc_right _).alloc_right _).alloc_right _) hx1)
    have lt_1 : w.heap.size < w1.heap.size := World.block_lt_of_cell? w1 _ c0_0_0
    have lt_2 : w.heap.size + 1 < w1.heap.size := World.block_lt_of_cell? w1 _ c0_1_0
    have lt_3 : w.heap.size + 1 + 1 < w1.heap.size := World.block_lt_of_cell? w1 _ c0_2_0
    clear hx1
    go_wp2_with fail
    refine (hno.out _).mono ?_
    rintro e w2 ⟨rfl, hx2⟩
    replace t := hid (There.ext t.out hx2)
    replace c0_0_0 := hx2.cell c0_0_0
    replace c0_0_1 := hx2.cell c0_0_1
    replace c0_0_2 := hx2.cell c0_0_2
    replace c0_1_0 := hx2.cell c0_1_0
    replace c0_1_1 := hx2.cell c0_1_1
    replace c0_1_2 := hx2.cell c0_1_2
    replace c0_2_0 := hx2.cell c0_2_0
    replace c0_2_1 := hx2.cell c0_2_1
    replace c0_2_2 := hx2.cell c0_2_2
    replace hE := hid (Ext.trans hE.out hx2)
    clear lt_1
    have lt_1 : w.heap.size < w2.heap.size := World.block_lt_of_cell? w2 _ c0_0_0
    clear lt_2
    have lt_2 : w.heap.size + 1 < w2.heap.size := World.block_lt_of_cell? w2 _ c0_1_0
    clear lt_3
    have lt_3 : w.heap.size + 1 + 1 < w2.heap.size := World.block_lt_of_cell? w2 _ c0_2_0
    clear hx2
    have p0 := t.out.cell (o := 0) (by omega)
    have f0 := t.out.free (o := 0) (by omega)
    have p1 := t.out.cell (o := 1) (by omega)
    have f1 := t.out.free (o := 1) (by omega)
    have p2 := t.out.cell (o := 2) (by omega)
    have f2 := t.out.free (o := 2) (by omega)
    have kk := hid (put3 t.out (.int .i64 (diedR 1).1) (.int .i64 (diedR 1).2.1) (.string (diedR 1).2.2.1))
    have Fin := hid (((hE.out.set (p := ⟨w.heap.size + 1 + 1, 0, none⟩) (show w.heap.size ≤ w.heap.size + 1 + 1 by omega) (.int .i64 (diedR 1).1)).set (p := ⟨w.heap.size + 1 + 1, 1, none⟩) (show w.heap.size ≤ w.heap.size + 1 + 1 by omega) (.int .i64 (diedR 1).2.1)).set (p := ⟨w.heap.size + 1 + 1, 2, none⟩) (show w.heap.size ≤ w.heap.size + 1 + 1 by omega) (.string (diedR 1).2.2.1))
    clear t
    clear c0_2_0 c0_2_1 c0_2_2
    go_wp2
    obtain ⟨k0, k1, k2⟩ := kk.out
    exact bodyPost_ret (v := .tuple #[.agg #[.int .i64 (diedR 1).1, .int .i64 (diedR 1).2.1, .string (diedR 1).2.2.1], .int .i64 (diedR 1).2.2.2]) (by simp [results, Tryd.results68, go_sem, k0, k1, k2]) rfl ⟨rfl, Fin.out⟩
  · clear c1 hk hk'
    go_enter Tryd.func68, Tryd.ntmps68
    go_upto_region 1 with fail
    generalize hw_ : (((w.alloc (.cells #[.int .i64 k, .int .i64 n, .string s] 23)).alloc (.cells #[.int .i64 k', .int .i64 n', .string s'] 23)).alloc (.cells #[.int .i64 0, .int .i64 0, .string { data := #[] }] 23)) = w1
    have hx1 : Ext (((w.alloc (.cells #[.int .i64 k, .int .i64 n, .string s] 23)).alloc (.cells #[.int .i64 k', .int .i64 n', .string s'] 23)).alloc (.cells #[.int .i64 0, .int .i64 0, .string { data := #[] }] 23)) w1 := by rw [hw_]; exact Ext.refl _
    clear hw_
    have t := hid (There.ext (There.newb ((w.alloc (.cells #[.int .i64 k, .int .i64 n, .string s] 23)).alloc (.cells #[.int .i64 k', .int .i64 n', .string s'] 23)) #[.int .i64 0, .int .i64 0, .string { data := #[] }] 23 (n := 3) (b := w.heap.size + 1 + 1) (by simp) (by decide)) hx1)
    have c0_0_0 : w1.cell? ⟨w.heap.size, 0, none⟩ = some (.int .i64 k) := hx1.cell (by go_simp)
    have c0_0_1 : w1.cell? ⟨w.heap.size, 1, none⟩ = some (.int .i64 n) := hx1.cell (by go_simp)
    have c0_0_2 : w1.cell? ⟨w.heap.size, 2, none⟩ = some (.string s) := hx1.cell (by go_simp)
    have c0_1_0 : w1.cell? ⟨w.heap.size + 1, 0, none⟩ = some (.int .i64 k') := hx1.cell (by go_simp)
    have c0_1_1 : w1.cell? ⟨w.heap.size + 1, 1, none⟩ = some (.int .i64 n') := hx1.cell (by go_simp)
    have c0_1_2 : w1.cell? ⟨w.heap.size + 1, 2, none⟩ = some (.string s') := hx1.cell (by go_simp)
    have c0_2_0 : w1.cell? ⟨w.heap.size + 1 + 1, 0, none⟩ = some (.int .i64 0) := hx1.cell (by go_simp)
    have c0_2_1 : w1.cell? ⟨w.heap.size + 1 + 1, 1, none⟩ = some (.int .i64 0) := hx1.cell (by go_simp)
    have c0_2_2 : w1.cell? ⟨w.heap.size + 1 + 1, 2, none⟩ = some (.string { data := #[] }) := hx1.cell (by go_simp)
    have hE := hid (Ext.trans ((((Ext.refl w).alloc_right _).alloc_right _).alloc_right _) hx1)
    have lt_1 : w.heap.size < w1.heap.size := World.block_lt_of_cell? w1 _ c0_0_0
    have lt_2 : w.heap.size + 1 < w1.heap.size := World.block_lt_of_cell? w1 _ c0_1_0
    have lt_3 : w.heap.size + 1 + 1 < w1.heap.size := World.block_lt_of_cell? w1 _ c0_2_0
    clear hx1
    go_wp2_with fail
    refine (hno.out _).mono ?_
    rintro e w2 ⟨rfl, hx2⟩
    replace t := hid (There.ext t.out hx2)
    replace c0_0_0 := hx2.cell c0_0_0
    replace c0_0_1 := hx2.cell c0_0_1
    replace c0_0_2 := hx2.cell c0_0_2
    replace c0_1_0 := hx2.cell c0_1_0
    replace c0_1_1 := hx2.cell c0_1_1
    replace c0_1_2 := hx2.cell c0_1_2
    replace c0_2_0 := hx2.cell c0_2_0
    replace c0_2_1 := hx2.cell c0_2_1
    replace c0_2_2 := hx2.cell c0_2_2
    replace hE := hid (Ext.trans hE.out hx2)
    clear lt_1
    have lt_1 : w.heap.size < w2.heap.size := World.block_lt_of_cell? w2 _ c0_0_0
    clear lt_2
    have lt_2 : w.heap.size + 1 < w2.heap.size := World.block_lt_of_cell? w2 _ c0_1_0
    clear lt_3
    have lt_3 : w.heap.size + 1 + 1 < w2.heap.size := World.block_lt_of_cell? w2 _ c0_2_0
    clear hx2
    have p0 := t.out.cell (o := 0) (by omega)
    have f0 := t.out.free (o := 0) (by omega)
    have p1 := t.out.cell (o := 1) (by omega)
    have f1 := t.out.free (o := 1) (by omega)
    have p2 := t.out.cell (o := 2) (by omega)
    have f2 := t.out.free (o := 2) (by omega)
    have kk := hid (put3 t.out (.int .i64 (diedR 1).1) (.int .i64 (diedR 1).2.1) (.string (diedR 1).2.2.1))
    have Fin := hid (((hE.out.set (p := ⟨w.heap.size + 1 + 1, 0, none⟩) (show w.heap.size ≤ w.heap.size + 1 + 1 by omega) (.int .i64 (diedR 1).1)).set (p := ⟨w.heap.size + 1 + 1, 1, none⟩) (show w.heap.size ≤ w.heap.size + 1 + 1 by omega) (.int .i64 (diedR 1).2.1)).set (p := ⟨w.heap.size + 1 + 1, 2, none⟩) (show w.heap.size ≤ w.heap.size + 1 + 1 by omega) (.string (diedR 1).2.2.1))
    clear t
    clear c0_2_0 c0_2_1 c0_2_2
    go_wp2
    obtain ⟨k0, k1, k2⟩ := kk.out
    exact bodyPost_ret (v := .tuple #[.agg #[.int .i64 (diedR 1).1, .int .i64 (diedR 1).2.1, .string (diedR 1).2.2.1], .int .i64 (diedR 1).2.2.2]) (by simp [results, Tryd.results68, go_sem, k0, k1, k2]) rfl ⟨rfl, Fin.out⟩
set_option maxRecDepth 100000 in
set_option maxHeartbeats 2000000 in
theorem Done_5 (k n : Int) (s : ByteArray) (k' n' : Int) (s' : ByteArray) (w : World) (h1 : Bd k n s) (h2 : Bd k' n' s') (hk : k ≠ 0) (hk' : k' ≠ 0) : Calls Tryd.prog 68 #[.int .i64 5, vV k n s, vV k' n' s'] w (GiveP (wholeR powR k n k' n') w) := by
  have e0 : (k == 0) = false := by simpa using hk
  have e0' : (k' == 0) = false := by simpa using hk'
  unfold vV
  by_cases c1 : k = 2 ∧ k' = 2
  · obtain ⟨rfl, rfl⟩ := c1
    rw [show wholeR powR 2 n 2 n' = powR n n' by unfold wholeR; rw [if_pos ⟨rfl, rfl⟩]]
    go_enter Tryd.func68, Tryd.ntmps68
    go_upto_region 1 with fail
    generalize hw_ : (((w.alloc (.cells #[.int .i64 2, .int .i64 n, .string s] 23)).alloc (.cells #[.int .i64 2, .int .i64 n', .string s'] 23)).alloc (.cells #[.int .i64 0, .int .i64 0, .string { data := #[] }] 23)) = w1
    have hx1 : Ext (((w.alloc (.cells #[.int .i64 2, .int .i64 n, .string s] 23)).alloc (.cells #[.int .i64 2, .int .i64 n', .string s'] 23)).alloc (.cells #[.int .i64 0, .int .i64 0, .string { data := #[] }] 23)) w1 := by rw [hw_]; exact Ext.refl _
    clear hw_
    have t := hid (There.ext (There.newb ((w.alloc (.cells #[.int .i64 2, .int .i64 n, .string s] 23)).alloc (.cells #[.int .i64 2, .int .i64 n', .string s'] 23)) #[.int .i64 0, .int .i64 0, .string { data := #[] }] 23 (n := 3) (b := w.heap.size + 1 + 1) (by simp) (by decide)) hx1)
    have c0_0_0 : w1.cell? ⟨w.heap.size, 0, none⟩ = some (.int .i64 2) := hx1.cell (by go_simp)
    have c0_0_1 : w1.cell? ⟨w.heap.size, 1, none⟩ = some (.int .i64 n) := hx1.cell (by go_simp)
    have c0_0_2 : w1.cell? ⟨w.heap.size, 2, none⟩ = some (.string s) := hx1.cell (by go_simp)
    have c0_1_0 : w1.cell? ⟨w.heap.size + 1, 0, none⟩ = some (.int .i64 2) := hx1.cell (by go_simp)
    have c0_1_1 : w1.cell? ⟨w.heap.size + 1, 1, none⟩ = some (.int .i64 n') := hx1.cell (by go_simp)
    have c0_1_2 : w1.cell? ⟨w.heap.size + 1, 2, none⟩ = some (.string s') := hx1.cell (by go_simp)
    have c0_2_0 : w1.cell? ⟨w.heap.size + 1 + 1, 0, none⟩ = some (.int .i64 0) := hx1.cell (by go_simp)
    have c0_2_1 : w1.cell? ⟨w.heap.size + 1 + 1, 1, none⟩ = some (.int .i64 0) := hx1.cell (by go_simp)
    have c0_2_2 : w1.cell? ⟨w.heap.size + 1 + 1, 2, none⟩ = some (.string { data := #[] }) := hx1.cell (by go_simp)
    have hE := hid (Ext.trans ((((Ext.refl w).alloc_right _).alloc_right _).alloc_right _) hx1)
    have lt_1 : w.heap.size < w1.heap.size := World.block_lt_of_cell? w1 _ c0_0_0
    have lt_2 : w.heap.size + 1 < w1.heap.size := World.block_lt_of_cell? w1 _ c0_1_0
    have lt_3 : w.heap.size + 1 + 1 < w1.heap.size := World.block_lt_of_cell? w1 _ c0_2_0
    clear hx1
    go_wp2_with fail
    refine (numbers_5 n n' _ h1.num h2.num).mono ?_
    rintro e w2 ⟨rfl, hx2⟩
    replace t := hid (There.ext t.out hx2)
    replace c0_0_0 := hx2.cell c0_0_0
    replace c0_0_1 := hx2.cell c0_0_1
    replace c0_0_2 := hx2.cell c0_0_2
    replace c0_1_0 := hx2.cell c0_1_0
    replace c0_1_1 := hx2.cell c0_1_1
    replace c0_1_2 := hx2.cell c0_1_2
    replace c0_2_0 := hx2.cell c0_2_0
    replace c0_2_1 := hx2.cell c0_2_1
    replace c0_2_2 := hx2.cell c0_2_2
    replace hE := hid (Ext.trans hE.out hx2)
    clear lt_1
    have lt_1 : w.heap.size < w2.heap.size := World.block_lt_of_cell? w2 _ c0_0_0
    clear lt_2
    have lt_2 : w.heap.size + 1 < w2.heap.size := World.block_lt_of_cell? w2 _ c0_1_0
    clear lt_3
    have lt_3 : w.heap.size + 1 + 1 < w2.heap.size := World.block_lt_of_cell? w2 _ c0_2_0
    clear hx2
    have p0 := t.out.cell (o := 0) (by omega)
    have f0 := t.out.free (o := 0) (by omega)
    have p1 := t.out.cell (o := 1) (by omega)
    have f1 := t.out.free (o := 1) (by omega)
    have p2 := t.out.cell (o := 2) (by omega)
    have f2 := t.out.free (o := 2) (by omega)
    have kk := hid (put3 t.out (.int .i64 (powR n n').1) (.int .i64 (powR n n').2.1) (.string (powR n n').2.2.1))
    have Fin := hid (((hE.out.set (p := ⟨w.heap.size + 1 + 1, 0, none⟩) (show w.heap.size ≤ w.heap.size + 1 + 1 by omega) (.int .i64 (powR n n').1)).set (p := ⟨w.heap.size + 1 + 1, 1, none⟩) (show w.heap.size ≤ w.heap.size + 1 + 1 by omega) (.int .i64 (powR n n').2.1)).set (p := ⟨w.heap.size + 1 + 1, 2, none⟩) (show w.heap.size ≤ w.heap.size + 1 + 1 by omega) (.string (powR n n').2.2.1))
    clear t
    clear c0_2_0 c0_2_1 c0_2_2
    go_wp2
    obtain ⟨k0, k1, k2⟩ := kk.out
    exact bodyPost_ret (v := .tuple #[.agg #[.int .i64 (powR n n').1, .int .i64 (powR n n').2.1, .string (powR n n').2.2.1], .int .i64 (powR n n').2.2.2]) (by simp [results, Tryd.results68, go_sem, k0, k1, k2]) rfl ⟨rfl, Fin.out⟩
  rw [show wholeR powR k n k' n' = diedR 1 by unfold wholeR; rw [if_neg c1]]
  have hno := hid (fun w => others_no 5 k n s k' n' s' w (bd_kind h1 hk) (bd_kind h2 hk') (by rintro ⟨h, _⟩; exact absurd h (by decide)) (by rintro ⟨h, _⟩; exact absurd h (by decide)))
  rcases Bool.eq_false_or_eq_true (k == 2) with g | g
  · have g2 : (k' == 2) = false := by
      have a : k = 2 := by simpa using g
      simpa using (show k' ≠ 2 from fun b => c1 ⟨a, b⟩)
    clear c1 hk hk'
    go_enter Tryd.func68, Tryd.ntmps68
    go_upto_region 1 with fail
    generalize hw_ : (((w.alloc (.cells #[.int .i64 k, .int .i64 n, .string s] 23)).alloc (.cells #[.int .i64 k', .int .i64 n', .string s'] 23)).alloc (.cells #[.int .i64 0, .int .i64 0, .string { data := #[] }] 23)) = w1
    have hx1 : Ext (((w.alloc (.cells #[.int .i64 k, .int .i64 n, .string s] 23)).alloc (.cells #[.int .i64 k', .int .i64 n', .string s'] 23)).alloc (.cells #[.int .i64 0, .int .i64 0, .string { data := #[] }] 23)) w1 := by rw [hw_]; exact Ext.refl _
    clear hw_
    have t := hid (There.ext (There.newb ((w.alloc (.cells #[.int .i64 k, .int .i64 n, .string s] 23)).alloc (.cells #[.int .i64 k', .int .i64 n', .string s'] 23)) #[.int .i64 0, .int .i64 0, .string { data := #[] }] 23 (n := 3) (b := w.heap.size + 1 + 1) (by simp) (by decide)) hx1)
    have c0_0_0 : w1.cell? ⟨w.heap.size, 0, none⟩ = some (.int .i64 k) := hx1.cell (by go_simp)
    have c0_0_1 : w1.cell? ⟨w.heap.size, 1, none⟩ = some (.int .i64 n) := hx1.cell (by go_simp)
    have c0_0_2 : w1.cell? ⟨w.heap.size, 2, none⟩ = some (.string s) := hx1.cell (by go_simp)
    have c0_1_0 : w1.cell? ⟨w.heap.size + 1, 0, none⟩ = some (.int .i64 k') := hx1.cell (by go_simp)
    have c0_1_1 : w1.cell? ⟨w.heap.size + 1, 1, none⟩ = some (.int .i64 n') := hx1.cell (by go_simp)
    have c0_1_2 : w1.cell? ⟨w.heap.size + 1, 2, none⟩ = some (.string s') := hx1.cell (by go_simp)
    have c0_2_0 : w1.cell? ⟨w.heap.size + 1 + 1, 0, none⟩ = some (.int .i64 0) := hx1.cell (by go_simp)
    have c0_2_1 : w1.cell? ⟨w.heap.size + 1 + 1, 1, none⟩ = some (.int .i64 0) := hx1.cell (by go_simp)
    have c0_2_2 : w1.cell? ⟨w.heap.size + 1 + 1, 2, none⟩ = some (.string { data := #[] }) := hx1.cell (by go_simp)
    have hE := hid (Ext.trans ((((Ext.refl w).alloc_right _).alloc_right _).alloc_right _) hx1)
    have lt_1 : w.heap.size < w1.heap.size := World.block_lt_of_cell? w1 _ c0_0_0
    have lt_2 : w.heap.size + 1 < w1.heap.size := World.block_lt_of_cell? w1 _ c0_1_0
    have lt_3 : w.heap.size + 1 + 1 < w1.heap.size := World.block_lt_of_cell? w1 _ c0_2_0
    clear hx1
    go_wp2_with fail
    refine (hno.out _).mono ?_
    rintro e w2 ⟨rfl, hx2⟩
    replace t := hid (There.ext t.out hx2)
    replace c0_0_0 := hx2.cell c0_0_0
    replace c0_0_1 := hx2.cell c0_0_1
    replace c0_0_2 := hx2.cell c0_0_2
    replace c0_1_0 := hx2.cell c0_1_0
    replace c0_1_1 := hx2.cell c0_1_1
    replace c0_1_2 := hx2.cell c0_1_2
    replace c0_2_0 := hx2.cell c0_2_0
    replace c0_2_1 := hx2.cell c0_2_1
    replace c0_2_2 := hx2.cell c0_2_2
    replace hE := hid (Ext.trans hE.out hx2)
    clear lt_1
    have lt_1 : w.heap.size < w2.heap.size := World.block_lt_of_cell? w2 _ c0_0_0
    clear lt_2
    have lt_2 : w.heap.size + 1 < w2.heap.size := World.block_lt_of_cell? w2 _ c0_1_0
    clear lt_3
    have lt_3 : w.heap.size + 1 + 1 < w2.heap.size := World.block_lt_of_cell? w2 _ c0_2_0
    clear hx2
    have p0 := t.out.cell (o := 0) (by omega)
    have f0 := t.out.free (o := 0) (by omega)
    have p1 := t.out.cell (o := 1) (by omega)
    have f1 := t.out.free (o := 1) (by omega)
    have p2 := t.out.cell (o := 2) (by omega)
    have f2 := t.out.free (o := 2) (by omega)
    have kk := hid (put3 t.out (.int .i64 (diedR 1).1) (.int .i64 (diedR 1).2.1) (.string (diedR 1).2.2.1))
    have Fin := hid (((hE.out.set (p := ⟨w.heap.size + 1 + 1, 0, none⟩) (show w.heap.size ≤ w.heap.size + 1 + 1 by omega) (.int .i64 (diedR 1).1)).set (p := ⟨w.heap.size + 1 + 1, 1, none⟩) (show w.heap.size ≤ w.heap.size + 1 + 1 by omega) (.int .i64 (diedR 1).2.1)).set (p := ⟨w.heap.size + 1 + 1, 2, none⟩) (show w.heap.size ≤ w.heap.size + 1 + 1 by omega) (.string (diedR 1).2.2.1))
    clear t
    clear c0_2_0 c0_2_1 c0_2_2
    go_wp2
    obtain ⟨k0, k1, k2⟩ := kk.out
    exact bodyPost_ret (v := .tuple #[.agg #[.int .i64 (diedR 1).1, .int .i64 (diedR 1).2.1, .string (diedR 1).2.2.1], .int .i64 (diedR 1).2.2.2]) (by simp [results, Tryd.results68, go_sem, k0, k1, k2]) rfl ⟨rfl, Fin.out⟩
  · clear c1 hk hk'
    go_enter Tryd.func68, Tryd.ntmps68
    go_upto_region 1 with fail
    generalize hw_ : (((w.alloc (.cells #[.int .i64 k, .int .i64 n, .string s] 23)).alloc (.cells #[.int .i64 k', .int .i64 n', .string s'] 23)).alloc (.cells #[.int .i64 0, .int .i64 0, .string { data := #[] }] 23)) = w1
    have hx1 : Ext (((w.alloc (.cells #[.int .i64 k, .int .i64 n, .string s] 23)).alloc (.cells #[.int .i64 k', .int .i64 n', .string s'] 23)).alloc (.cells #[.int .i64 0, .int .i64 0, .string { data := #[] }] 23)) w1 := by rw [hw_]; exact Ext.refl _
    clear hw_
    have t := hid (There.ext (There.newb ((w.alloc (.cells #[.int .i64 k, .int .i64 n, .string s] 23)).alloc (.cells #[.int .i64 k', .int .i64 n', .string s'] 23)) #[.int .i64 0, .int .i64 0, .string { data := #[] }] 23 (n := 3) (b := w.heap.size + 1 + 1) (by simp) (by decide)) hx1)
    have c0_0_0 : w1.cell? ⟨w.heap.size, 0, none⟩ = some (.int .i64 k) := hx1.cell (by go_simp)
    have c0_0_1 : w1.cell? ⟨w.heap.size, 1, none⟩ = some (.int .i64 n) := hx1.cell (by go_simp)
    have c0_0_2 : w1.cell? ⟨w.heap.size, 2, none⟩ = some (.string s) := hx1.cell (by go_simp)
    have c0_1_0 : w1.cell? ⟨w.heap.size + 1, 0, none⟩ = some (.int .i64 k') := hx1.cell (by go_simp)
    have c0_1_1 : w1.cell? ⟨w.heap.size + 1, 1, none⟩ = some (.int .i64 n') := hx1.cell (by go_simp)
    have c0_1_2 : w1.cell? ⟨w.heap.size + 1, 2, none⟩ = some (.string s') := hx1.cell (by go_simp)
    have c0_2_0 : w1.cell? ⟨w.heap.size + 1 + 1, 0, none⟩ = some (.int .i64 0) := hx1.cell (by go_simp)
    have c0_2_1 : w1.cell? ⟨w.heap.size + 1 + 1, 1, none⟩ = some (.int .i64 0) := hx1.cell (by go_simp)
    have c0_2_2 : w1.cell? ⟨w.heap.size + 1 + 1, 2, none⟩ = some (.string { data := #[] }) := hx1.cell (by go_simp)
    have hE := hid (Ext.trans ((((Ext.refl w).alloc_right _).alloc_right _).alloc_right _) hx1)
    have lt_1 : w.heap.size < w1.heap.size := World.block_lt_of_cell? w1 _ c0_0_0
    have lt_2 : w.heap.size + 1 < w1.heap.size := World.block_lt_of_cell? w1 _ c0_1_0
    have lt_3 : w.heap.size + 1 + 1 < w1.heap.size := World.block_lt_of_cell? w1 _ c0_2_0
    clear hx1
    go_wp2_with fail
    refine (hno.out _).mono ?_
    rintro e w2 ⟨rfl, hx2⟩
    replace t := hid (There.ext t.out hx2)
    replace c0_0_0 := hx2.cell c0_0_0
    replace c0_0_1 := hx2.cell c0_0_1
    replace c0_0_2 := hx2.cell c0_0_2
    replace c0_1_0 := hx2.cell c0_1_0
    replace c0_1_1 := hx2.cell c0_1_1
    replace c0_1_2 := hx2.cell c0_1_2
    replace c0_2_0 := hx2.cell c0_2_0
    replace c0_2_1 := hx2.cell c0_2_1
    replace c0_2_2 := hx2.cell c0_2_2
    replace hE := hid (Ext.trans hE.out hx2)
    clear lt_1
    have lt_1 : w.heap.size < w2.heap.size := World.block_lt_of_cell? w2 _ c0_0_0
    clear lt_2
    have lt_2 : w.heap.size + 1 < w2.heap.size := World.block_lt_of_cell? w2 _ c0_1_0
    clear lt_3
    have lt_3 : w.heap.size + 1 + 1 < w2.heap.size := World.block_lt_of_cell? w2 _ c0_2_0
    clear hx2
    have p0 := t.out.cell (o := 0) (by omega)
    have f0 := t.out.free (o := 0) (by omega)
    have p1 := t.out.cell (o := 1) (by omega)
    have f1 := t.out.free (o := 1) (by omega)
    have p2 := t.out.cell (o := 2) (by omega)
    have f2 := t.out.free (o := 2) (by omega)
    have kk := hid (put3 t.out (.int .i64 (diedR 1).1) (.int .i64 (diedR 1).2.1) (.string (diedR 1).2.2.1))
    have Fin := hid (((hE.out.set (p := ⟨w.heap.size + 1 + 1, 0, none⟩) (show w.heap.size ≤ w.heap.size + 1 + 1 by omega) (.int .i64 (diedR 1).1)).set (p := ⟨w.heap.size + 1 + 1, 1, none⟩) (show w.heap.size ≤ w.heap.size + 1 + 1 by omega) (.int .i64 (diedR 1).2.1)).set (p := ⟨w.heap.size + 1 + 1, 2, none⟩) (show w.heap.size ≤ w.heap.size + 1 + 1 by omega) (.string (diedR 1).2.2.1))
    clear t
    clear c0_2_0 c0_2_1 c0_2_2
    go_wp2
    obtain ⟨k0, k1, k2⟩ := kk.out
    exact bodyPost_ret (v := .tuple #[.agg #[.int .i64 (diedR 1).1, .int .i64 (diedR 1).2.1, .string (diedR 1).2.2.1], .int .i64 (diedR 1).2.2.2]) (by simp [results, Tryd.results68, go_sem, k0, k1, k2]) rfl ⟨rfl, Fin.out⟩
end Go.Proofs.YtkjcfnmbnddhjaaDoor
