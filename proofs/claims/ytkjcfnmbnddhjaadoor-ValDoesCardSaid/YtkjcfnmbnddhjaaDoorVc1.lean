/-
  What an operation of two values gives: the other operations.
-/
import Derived.Test.YtkjcfnmbnddhjaaDoorVa8
namespace Go.Proofs.YtkjcfnmbnddhjaaDoor
open Go.RowKit
attribute [local go_sem ↓] Go.wp_at_zero Go.wp_at_succ
set_option linter.unusedVariables false
set_option linter.unusedSimpArgs false
def wholeR (f : Int → Int → Res) (k n k' n' : Int) : Res := if k = 2 ∧ k' = 2 then f n n' else diedR 1
set_option maxRecDepth 100000 in
set_option maxHeartbeats 2000000 in
theorem whole1_any (f : Nat) (R : Int → Int → Res) (hcf : ∀ args w, (callFunc f args).run Tryd.prog w = .ok (.enter f args) w) (hf : ∀ x y w, (-1000000000000000 ≤ x ∧ x ≤ 1000000000000000) → (-1000000000000000 ≤ y ∧ y ≤ 1000000000000000) → Calls Tryd.prog f #[.int .i64 x, .int .i64 y] w (Give (rV (R x y)) w))
    (k n : Int) (s : ByteArray) (k' n' : Int) (s' : ByteArray) (b : Nat) (w : World) (hc : w.cell? ⟨b, 0, none⟩ = some (.func (.func f) #[] #[])) (h1 : Bd k n s) (h2 : Bd k' n' s') :
    Calls Tryd.prog 107 #[vV k n s, vV k' n' s', .pointer (some ⟨b, 0, none⟩)] w (Give (rV (wholeR R k n k' n')) w) := by
  unfold vV
  have HF := hid hf
  clear hf
  by_cases c1 : k = 2
  · subst c1
    by_cases c2 : k' = 2
    · subst c2
      have b1 := h1.num
      have b2 := h2.num
      rw [show wholeR R 2 n 2 n' = R n n' by unfold wholeR; rw [if_pos ⟨rfl, rfl⟩]]
      go_enter Tryd.func107, Tryd.ntmps107
      go_upto_region 1 with fail
      generalize hw_ : (((w.alloc (.cells #[.int .i64 2, .int .i64 n, .string s] 23)).alloc (.cells #[.int .i64 2, .int .i64 n', .string s'] 23)).alloc (.cells #[.int .i64 0, .int .i64 0, .string { data := #[] }, .int .i64 0] 70)) = w1
      have hx1 : Ext (((w.alloc (.cells #[.int .i64 2, .int .i64 n, .string s] 23)).alloc (.cells #[.int .i64 2, .int .i64 n', .string s'] 23)).alloc (.cells #[.int .i64 0, .int .i64 0, .string { data := #[] }, .int .i64 0] 70)) w1 := by rw [hw_]; exact Ext.refl _
      clear hw_
      have t := hid (There.ext (There.newb ((w.alloc (.cells #[.int .i64 2, .int .i64 n, .string s] 23)).alloc (.cells #[.int .i64 2, .int .i64 n', .string s'] 23)) #[.int .i64 0, .int .i64 0, .string { data := #[] }, .int .i64 0] 70 (n := 4) (b := w.heap.size + 1 + 1) (by simp) (by decide)) hx1)
      replace hc := hx1.cell (cell_alloc (cell_alloc (cell_alloc hc _) _) _)
      have c0_0_0 : w1.cell? ⟨w.heap.size, 0, none⟩ = some (.int .i64 2) := hx1.cell (by go_simp)
      have c0_0_1 : w1.cell? ⟨w.heap.size, 1, none⟩ = some (.int .i64 n) := hx1.cell (by go_simp)
      have c0_0_2 : w1.cell? ⟨w.heap.size, 2, none⟩ = some (.string s) := hx1.cell (by go_simp)
      have c0_1_0 : w1.cell? ⟨w.heap.size + 1, 0, none⟩ = some (.int .i64 2) := hx1.cell (by go_simp)
      have c0_1_1 : w1.cell? ⟨w.heap.size + 1, 1, none⟩ = some (.int .i64 n') := hx1.cell (by go_simp)
      have c0_1_2 : w1.cell? ⟨w.heap.size + 1, 2, none⟩ = some (.string s') := hx1.cell (by go_simp)
      have c0_2_0 : w1.cell? ⟨w.heap.size + 1 + 1, 0, none⟩ = some (.int .i64 0) := hx1.cell (by go_simp)
      have c0_2_1 : w1.cell? ⟨w.heap.size + 1 + 1, 1, none⟩ = some (.int .i64 0) := hx1.cell (by go_simp)
      have c0_2_2 : w1.cell? ⟨w.heap.size + 1 + 1, 2, none⟩ = some (.string { data := #[] }) := hx1.cell (by go_simp)
      have c0_2_3 : w1.cell? ⟨w.heap.size + 1 + 1, 3, none⟩ = some (.int .i64 0) := hx1.cell (by go_simp)
      have hE := hid (Ext.trans ((((Ext.refl w).alloc_right _).alloc_right _).alloc_right _) hx1)
      have lt_1 : b < w1.heap.size := World.block_lt_of_cell? w1 _ hc
      have lt_2 : w.heap.size < w1.heap.size := World.block_lt_of_cell? w1 _ c0_0_0
      have lt_3 : w.heap.size + 1 < w1.heap.size := World.block_lt_of_cell? w1 _ c0_1_0
      have lt_4 : w.heap.size + 1 + 1 < w1.heap.size := World.block_lt_of_cell? w1 _ c0_2_0
      clear hx1
      go_wp2_with fail
      refine (HF.out n n' _ b1 b2).mono ?_
      rintro e w2 ⟨rfl, hx2⟩
      replace t := hid (There.ext t.out hx2)
      replace hc := hx2.cell hc
      replace c0_0_0 := hx2.cell c0_0_0
      replace c0_0_1 := hx2.cell c0_0_1
      replace c0_0_2 := hx2.cell c0_0_2
      replace c0_1_0 := hx2.cell c0_1_0
      replace c0_1_1 := hx2.cell c0_1_1
      replace c0_1_2 := hx2.cell c0_1_2
      replace c0_2_0 := hx2.cell c0_2_0
      replace c0_2_1 := hx2.cell c0_2_1
      replace c0_2_2 := hx2.cell c0_2_2
      replace c0_2_3 := hx2.cell c0_2_3
      replace hE := hid (Ext.trans hE.out hx2)
      clear lt_1
      have lt_1 : b < w2.heap.size := World.block_lt_of_cell? w2 _ hc
      clear lt_2
      have lt_2 : w.heap.size < w2.heap.size := World.block_lt_of_cell? w2 _ c0_0_0
      clear lt_3
      have lt_3 : w.heap.size + 1 < w2.heap.size := World.block_lt_of_cell? w2 _ c0_1_0
      clear lt_4
      have lt_4 : w.heap.size + 1 + 1 < w2.heap.size := World.block_lt_of_cell? w2 _ c0_2_0
      clear hx2
      unfold rV
      have p0 := t.out.cell (o := 0) (by omega)
      have f0 := t.out.free (o := 0) (by omega)
      have p1 := t.out.cell (o := 1) (by omega)
      have f1 := t.out.free (o := 1) (by omega)
      have p2 := t.out.cell (o := 2) (by omega)
      have f2 := t.out.free (o := 2) (by omega)
      have p3 := t.out.cell (o := 3) (by omega)
      have f3 := t.out.free (o := 3) (by omega)
      have kk := hid (put4 t.out (.int .i64 (R n n').1) (.int .i64 (R n n').2.1) (.string (R n n').2.2.1) (.int .i64 (R n n').2.2.2))
      have Fin := hid ((((hE.out.set (p := ⟨w.heap.size + 1 + 1, 0, none⟩) (show w.heap.size ≤ w.heap.size + 1 + 1 by omega) (.int .i64 (R n n').1)).set (p := ⟨w.heap.size + 1 + 1, 1, none⟩) (show w.heap.size ≤ w.heap.size + 1 + 1 by omega) (.int .i64 (R n n').2.1)).set (p := ⟨w.heap.size + 1 + 1, 2, none⟩) (show w.heap.size ≤ w.heap.size + 1 + 1 by omega) (.string (R n n').2.2.1)).set (p := ⟨w.heap.size + 1 + 1, 3, none⟩) (show w.heap.size ≤ w.heap.size + 1 + 1 by omega) (.int .i64 (R n n').2.2.2))
      clear t
      clear c0_2_0 c0_2_1 c0_2_2 c0_2_3
      go_wp2
      obtain ⟨k0, k1, k2, k3⟩ := kk.out
      exact bodyPost_ret (v := .agg #[.int .i64 (R n n').1, .int .i64 (R n n').2.1, .string (R n n').2.2.1, .int .i64 (R n n').2.2.2]) (by simp [results, Tryd.results107, go_sem, k0, k1, k2, k3]) rfl ⟨rfl, Fin.out⟩
    · have d2 : (k' != 2) = true := by simpa using c2
      rw [show wholeR R 2 n k' n' = diedR 1 by unfold wholeR; rw [if_neg (fun h => c2 h.2)]]
      clear c2
      go_enter Tryd.func107, Tryd.ntmps107
      go_upto_region 1 with fail
      generalize hw_ : (((w.alloc (.cells #[.int .i64 2, .int .i64 n, .string s] 23)).alloc (.cells #[.int .i64 k', .int .i64 n', .string s'] 23)).alloc (.cells #[.int .i64 0, .int .i64 0, .string { data := #[] }, .int .i64 0] 70)) = w1
      have hx1 : Ext (((w.alloc (.cells #[.int .i64 2, .int .i64 n, .string s] 23)).alloc (.cells #[.int .i64 k', .int .i64 n', .string s'] 23)).alloc (.cells #[.int .i64 0, .int .i64 0, .string { data := #[] }, .int .i64 0] 70)) w1 := by rw [hw_]; exact Ext.refl _
      clear hw_
      have t := hid (There.ext (There.newb ((w.alloc (.cells #[.int .i64 2, .int .i64 n, .string s] 23)).alloc (.cells #[.int .i64 k', .int .i64 n', .string s'] 23)) #[.int .i64 0, .int .i64 0, .string { data := #[] }, .int .i64 0] 70 (n := 4) (b := w.heap.size + 1 + 1) (by simp) (by decide)) hx1)
      replace hc := hx1.cell (cell_alloc (cell_alloc (cell_alloc hc _) _) _)
      have c0_0_0 : w1.cell? ⟨w.heap.size, 0, none⟩ = some (.int .i64 2) := hx1.cell (by go_simp)
      have c0_0_1 : w1.cell? ⟨w.heap.size, 1, none⟩ = some (.int .i64 n) := hx1.cell (by go_simp)
      have c0_0_2 : w1.cell? ⟨w.heap.size, 2, none⟩ = some (.string s) := hx1.cell (by go_simp)
      have c0_1_0 : w1.cell? ⟨w.heap.size + 1, 0, none⟩ = some (.int .i64 k') := hx1.cell (by go_simp)
      have c0_1_1 : w1.cell? ⟨w.heap.size + 1, 1, none⟩ = some (.int .i64 n') := hx1.cell (by go_simp)
      have c0_1_2 : w1.cell? ⟨w.heap.size + 1, 2, none⟩ = some (.string s') := hx1.cell (by go_simp)
      have c0_2_0 : w1.cell? ⟨w.heap.size + 1 + 1, 0, none⟩ = some (.int .i64 0) := hx1.cell (by go_simp)
      have c0_2_1 : w1.cell? ⟨w.heap.size + 1 + 1, 1, none⟩ = some (.int .i64 0) := hx1.cell (by go_simp)
      have c0_2_2 : w1.cell? ⟨w.heap.size + 1 + 1, 2, none⟩ = some (.string { data := #[] }) := hx1.cell (by go_simp)
      have c0_2_3 : w1.cell? ⟨w.heap.size + 1 + 1, 3, none⟩ = some (.int .i64 0) := hx1.cell (by go_simp)
      have hE := hid (Ext.trans ((((Ext.refl w).alloc_right _).alloc_right _).alloc_right _) hx1)
      have lt_1 : b < w1.heap.size := World.block_lt_of_cell? w1 _ hc
      have lt_2 : w.heap.size < w1.heap.size := World.block_lt_of_cell? w1 _ c0_0_0
      have lt_3 : w.heap.size + 1 < w1.heap.size := World.block_lt_of_cell? w1 _ c0_1_0
      have lt_4 : w.heap.size + 1 + 1 < w1.heap.size := World.block_lt_of_cell? w1 _ c0_2_0
      clear hx1
      go_wp2_with fail
      refine (died_r 1 _).mono ?_
      rintro e w2 ⟨rfl, hx2⟩
      replace t := hid (There.ext t.out hx2)
      replace hc := hx2.cell hc
      replace c0_0_0 := hx2.cell c0_0_0
      replace c0_0_1 := hx2.cell c0_0_1
      replace c0_0_2 := hx2.cell c0_0_2
      replace c0_1_0 := hx2.cell c0_1_0
      replace c0_1_1 := hx2.cell c0_1_1
      replace c0_1_2 := hx2.cell c0_1_2
      replace c0_2_0 := hx2.cell c0_2_0
      replace c0_2_1 := hx2.cell c0_2_1
      replace c0_2_2 := hx2.cell c0_2_2
      replace c0_2_3 := hx2.cell c0_2_3
      replace hE := hid (Ext.trans hE.out hx2)
      clear lt_1
      have lt_1 : b < w2.heap.size := World.block_lt_of_cell? w2 _ hc
      clear lt_2
      have lt_2 : w.heap.size < w2.heap.size := World.block_lt_of_cell? w2 _ c0_0_0
      clear lt_3
      have lt_3 : w.heap.size + 1 < w2.heap.size := World.block_lt_of_cell? w2 _ c0_1_0
      clear lt_4
      have lt_4 : w.heap.size + 1 + 1 < w2.heap.size := World.block_lt_of_cell? w2 _ c0_2_0
      clear hx2
      unfold rV
      have p0 := t.out.cell (o := 0) (by omega)
      have f0 := t.out.free (o := 0) (by omega)
      have p1 := t.out.cell (o := 1) (by omega)
      have f1 := t.out.free (o := 1) (by omega)
      have p2 := t.out.cell (o := 2) (by omega)
      have f2 := t.out.free (o := 2) (by omega)
      have p3 := t.out.cell (o := 3) (by omega)
      have f3 := t.out.free (o := 3) (by omega)
      have kk := hid (put4 t.out (.int .i64 (diedR 1).1) (.int .i64 (diedR 1).2.1) (.string (diedR 1).2.2.1) (.int .i64 (diedR 1).2.2.2))
      have Fin := hid ((((hE.out.set (p := ⟨w.heap.size + 1 + 1, 0, none⟩) (show w.heap.size ≤ w.heap.size + 1 + 1 by omega) (.int .i64 (diedR 1).1)).set (p := ⟨w.heap.size + 1 + 1, 1, none⟩) (show w.heap.size ≤ w.heap.size + 1 + 1 by omega) (.int .i64 (diedR 1).2.1)).set (p := ⟨w.heap.size + 1 + 1, 2, none⟩) (show w.heap.size ≤ w.heap.size + 1 + 1 by omega) (.string (diedR 1).2.2.1)).set (p := ⟨w.heap.size + 1 + 1, 3, none⟩) (show w.heap.size ≤ w.heap.size + 1 + 1 by omega) (.int .i64 (diedR 1).2.2.2))
      clear t
      clear c0_2_0 c0_2_1 c0_2_2 c0_2_3
      go_wp2
      obtain ⟨k0, k1, k2, k3⟩ := kk.out
      exact bodyPost_ret (v := .agg #[.int .i64 (diedR 1).1, .int .i64 (diedR 1).2.1, .string (diedR 1).2.2.1, .int .i64 (diedR 1).2.2.2]) (by simp [results, Tryd.results107, go_sem, k0, k1, k2, k3]) rfl ⟨rfl, Fin.out⟩
  · have d1 : (k != 2) = true := by simpa using c1
    rw [show wholeR R k n k' n' = diedR 1 by unfold wholeR; rw [if_neg (fun h => c1 h.1)]]
    clear c1
    go_enter Tryd.func107, Tryd.ntmps107
    go_upto_region 1 with fail
    generalize hw_ : (((w.alloc (.cells #[.int .i64 k, .int .i64 n, .string s] 23)).alloc (.cells #[.int .i64 k', .int .i64 n', .string s'] 23)).alloc (.cells #[.int .i64 0, .int .i64 0, .string { data := #[] }, .int .i64 0] 70)) = w1
    have hx1 : Ext (((w.alloc (.cells #[.int .i64 k, .int .i64 n, .string s] 23)).alloc (.cells #[.int .i64 k', .int .i64 n', .string s'] 23)).alloc (.cells #[.int .i64 0, .int .i64 0, .string { data := #[] }, .int .i64 0] 70)) w1 := by rw [hw_]; exact Ext.refl _
    clear hw_
    have t := hid (There.ext (There.newb ((w.alloc (.cells #[.int .i64 k, .int .i64 n, .string s] 23)).alloc (.cells #[.int .i64 k', .int .i64 n', .string s'] 23)) #[.int .i64 0, .int .i64 0, .string { data := #[] }, .int .i64 0] 70 (n := 4) (b := w.heap.size + 1 + 1) (by simp) (by decide)) hx1)
    replace hc := hx1.cell (cell_alloc (cell_alloc (cell_alloc hc _) _) _)
    have c0_0_0 : w1.cell? ⟨w.heap.size, 0, none⟩ = some (.int .i64 k) := hx1.cell (by go_simp)
    have c0_0_1 : w1.cell? ⟨w.heap.size, 1, none⟩ = some (.int .i64 n) := hx1.cell (by go_simp)
    have c0_0_2 : w1.cell? ⟨w.heap.size, 2, none⟩ = some (.string s) := hx1.cell (by go_simp)
    have c0_1_0 : w1.cell? ⟨w.heap.size + 1, 0, none⟩ = some (.int .i64 k') := hx1.cell (by go_simp)
    have c0_1_1 : w1.cell? ⟨w.heap.size + 1, 1, none⟩ = some (.int .i64 n') := hx1.cell (by go_simp)
    have c0_1_2 : w1.cell? ⟨w.heap.size + 1, 2, none⟩ = some (.string s') := hx1.cell (by go_simp)
    have c0_2_0 : w1.cell? ⟨w.heap.size + 1 + 1, 0, none⟩ = some (.int .i64 0) := hx1.cell (by go_simp)
    have c0_2_1 : w1.cell? ⟨w.heap.size + 1 + 1, 1, none⟩ = some (.int .i64 0) := hx1.cell (by go_simp)
    have c0_2_2 : w1.cell? ⟨w.heap.size + 1 + 1, 2, none⟩ = some (.string { data := #[] }) := hx1.cell (by go_simp)
    have c0_2_3 : w1.cell? ⟨w.heap.size + 1 + 1, 3, none⟩ = some (.int .i64 0) := hx1.cell (by go_simp)
    have hE := hid (Ext.trans ((((Ext.refl w).alloc_right _).alloc_right _).alloc_right _) hx1)
    have lt_1 : b < w1.heap.size := World.block_lt_of_cell? w1 _ hc
    have lt_2 : w.heap.size < w1.heap.size := World.block_lt_of_cell? w1 _ c0_0_0
    have lt_3 : w.heap.size + 1 < w1.heap.size := World.block_lt_of_cell? w1 _ c0_1_0
    have lt_4 : w.heap.size + 1 + 1 < w1.heap.size := World.block_lt_of_cell? w1 _ c0_2_0
    clear hx1
    go_wp2_with fail
    refine (died_r 1 _).mono ?_
    rintro e w2 ⟨rfl, hx2⟩
    replace t := hid (There.ext t.out hx2)
    replace hc := hx2.cell hc
    replace c0_0_0 := hx2.cell c0_0_0
    replace c0_0_1 := hx2.cell c0_0_1
    replace c0_0_2 := hx2.cell c0_0_2
    replace c0_1_0 := hx2.cell c0_1_0
    replace c0_1_1 := hx2.cell c0_1_1
    replace c0_1_2 := hx2.cell c0_1_2
    replace c0_2_0 := hx2.cell c0_2_0
    replace c0_2_1 := hx2.cell c0_2_1
    replace c0_2_2 := hx2.cell c0_2_2
    replace c0_2_3 := hx2.cell c0_2_3
    replace hE := hid (Ext.trans hE.out hx2)
    clear lt_1
    have lt_1 : b < w2.heap.size := World.block_lt_of_cell? w2 _ hc
    clear lt_2
    have lt_2 : w.heap.size < w2.heap.size := World.block_lt_of_cell? w2 _ c0_0_0
    clear lt_3
    have lt_3 : w.heap.size + 1 < w2.heap.size := World.block_lt_of_cell? w2 _ c0_1_0
    clear lt_4
    have lt_4 : w.heap.size + 1 + 1 < w2.heap.size := World.block_lt_of_cell? w2 _ c0_2_0
    clear hx2
    unfold rV
    have p0 := t.out.cell (o := 0) (by omega)
    have f0 := t.out.free (o := 0) (by omega)
    have p1 := t.out.cell (o := 1) (by omega)
    have f1 := t.out.free (o := 1) (by omega)
    have p2 := t.out.cell (o := 2) (by omega)
    have f2 := t.out.free (o := 2) (by omega)
    have p3 := t.out.cell (o := 3) (by omega)
    have f3 := t.out.free (o := 3) (by omega)
    have kk := hid (put4 t.out (.int .i64 (diedR 1).1) (.int .i64 (diedR 1).2.1) (.string (diedR 1).2.2.1) (.int .i64 (diedR 1).2.2.2))
    have Fin := hid ((((hE.out.set (p := ⟨w.heap.size + 1 + 1, 0, none⟩) (show w.heap.size ≤ w.heap.size + 1 + 1 by omega) (.int .i64 (diedR 1).1)).set (p := ⟨w.heap.size + 1 + 1, 1, none⟩) (show w.heap.size ≤ w.heap.size + 1 + 1 by omega) (.int .i64 (diedR 1).2.1)).set (p := ⟨w.heap.size + 1 + 1, 2, none⟩) (show w.heap.size ≤ w.heap.size + 1 + 1 by omega) (.string (diedR 1).2.2.1)).set (p := ⟨w.heap.size + 1 + 1, 3, none⟩) (show w.heap.size ≤ w.heap.size + 1 + 1 by omega) (.int .i64 (diedR 1).2.2.2))
    clear t
    clear c0_2_0 c0_2_1 c0_2_2 c0_2_3
    go_wp2
    obtain ⟨k0, k1, k2, k3⟩ := kk.out
    exact bodyPost_ret (v := .agg #[.int .i64 (diedR 1).1, .int .i64 (diedR 1).2.1, .string (diedR 1).2.2.1, .int .i64 (diedR 1).2.2.2]) (by simp [results, Tryd.results107, go_sem, k0, k1, k2, k3]) rfl ⟨rfl, Fin.out⟩
theorem enter_mul (args : Array Value) (w : World) : (callFunc 63 args).run Tryd.prog w = .ok (.enter 63 args) w := by kernel_rfl
theorem enter_div (args : Array Value) (w : World) : (callFunc 64 args).run Tryd.prog w = .ok (.enter 64 args) w := by kernel_rfl
theorem enter_mod (args : Array Value) (w : World) : (callFunc 65 args).run Tryd.prog w = .ok (.enter 65 args) w := by kernel_rfl
set_option maxRecDepth 100000 in
set_option maxHeartbeats 4000000 in
theorem DoAdd_ok (k n : Int) (s : ByteArray) (k' n' : Int) (s' : ByteArray) (w : World) (h1 : Bd k n s) (h2 : Bd k' n' s') (hk : k ≠ 0) (hk' : k' ≠ 0) : Calls Tryd.prog 17 #[.int .i64 0, vV k n s, vV k' n' s'] w (GiveD (addR k n s k' n' s') w) := by
  have hb := bd_both h1 h2
  have d1 : (k == 0) = false := by simpa using hk
  have d2 : (k' == 0) = false := by simpa using hk'
  clear hk hk'
  unfold vV
  go_enter Tryd.func17, Tryd.ntmps17
  go_wp2_with fail
  refine (both_any k n s k' n' s' _).mono ?_
  rintro e w1 ⟨rfl, hx1⟩
  have t := hid (There.ext (There.newb ((w.alloc (.cells #[.int .i64 k, .int .i64 n, .string s] 23)).alloc (.cells #[.int .i64 k', .int .i64 n', .string s'] 23)) #[.int .i64 0, .int .i64 0, .string { data := #[] }] 23 (n := 3) (b := w.heap.size + 1 + 1) (by simp) (by decide)) hx1)
  have c0_0_0 : w1.cell? ⟨w.heap.size, 0, none⟩ = some (.int .i64 k) := hx1.cell (by go_simp)
  have c0_0_1 : w1.cell? ⟨w.heap.size, 1, none⟩ = some (.int .i64 n) := hx1.cell (by go_simp)
  have c0_0_2 : w1.cell? ⟨w.heap.size, 2, none⟩ = some (.string s) := hx1.cell (by go_simp)
  have c0_1_0 : w1.cell? ⟨w.heap.size + 1, 0, none⟩ = some (.int .i64 k') := hx1.cell (by go_simp)
  have c0_1_1 : w1.cell? ⟨w.heap.size + 1, 1, none⟩ = some (.int .i64 n') := hx1.cell (by go_simp)
  have c0_1_2 : w1.cell? ⟨w.heap.size + 1, 2, none⟩ = some (.string s') := hx1.cell (by go_simp)
  have c0_2_0 : w1.cell? ⟨w.heap.size + 1 + 1, 0, none⟩ = some (.int .i64 0) := hx1.cell (by go_simp)
  have c0_2_1 : w1.cell? ⟨w.heap.size + 1 + 1, 1, none⟩ = some (.int .i64 0) := hx1.cell (by go_simp)
  have c0_2_2 : w1.cell? ⟨w.heap.size + 1 + 1, 2, none⟩ = some (.string { data := #[] }) := hx1.cell (by go_simp)
  have hE := hid (Ext.trans ((((Ext.refl w).alloc_right _).alloc_right _).alloc_right _) hx1)
  have lt_1 : w.heap.size < w1.heap.size := World.block_lt_of_cell? w1 _ c0_0_0
  have lt_2 : w.heap.size + 1 < w1.heap.size := World.block_lt_of_cell? w1 _ c0_1_0
  have lt_3 : w.heap.size + 1 + 1 < w1.heap.size := World.block_lt_of_cell? w1 _ c0_2_0
  clear hx1
  rw [hb]
  go_wp2_with fail
  refine (whole_any _ _).mono ?_
  rintro e w' ⟨rfl, rfl⟩
  go_wp2_with fail
  refine (whole_any _ _).mono ?_
  rintro e w' ⟨rfl, rfl⟩
  go_wp2_with fail
  refine (whole_any _ _).mono ?_
  rintro e w' ⟨rfl, rfl⟩
  go_wp2_with fail
  refine (whole_any _ _).mono ?_
  rintro e w' ⟨rfl, rfl⟩
  go_upto_region 5 with fail
  generalize hw2 : (((((w1.alloc (.cells #[.func (.func 63) #[] #[]] 67)).alloc (.cells #[.func (.func 64) #[] #[]] 67)).alloc (.cells #[.func (.func 65) #[] #[]] 67)).alloc (.cells #[.func (.func 66) #[] #[]] 67)).alloc (.cells #[.func (.func 60) #[] #[], .func (.func 61) #[] #[], .func (.func 107) #[] #[.pointer (some ⟨w1.heap.size, 0, none⟩)], .func (.func 107) #[] #[.pointer (some ⟨w1.heap.size + 1, 0, none⟩)], .func (.func 107) #[] #[.pointer (some ⟨w1.heap.size + 1 + 1, 0, none⟩)], .func (.func 107) #[] #[.pointer (some ⟨w1.heap.size + 1 + 1 + 1, 0, none⟩)]] 68)) = w2
  have hx2 : Ext (((((w1.alloc (.cells #[.func (.func 63) #[] #[]] 67)).alloc (.cells #[.func (.func 64) #[] #[]] 67)).alloc (.cells #[.func (.func 65) #[] #[]] 67)).alloc (.cells #[.func (.func 66) #[] #[]] 67)).alloc (.cells #[.func (.func 60) #[] #[], .func (.func 61) #[] #[], .func (.func 107) #[] #[.pointer (some ⟨w1.heap.size, 0, none⟩)], .func (.func 107) #[] #[.pointer (some ⟨w1.heap.size + 1, 0, none⟩)], .func (.func 107) #[] #[.pointer (some ⟨w1.heap.size + 1 + 1, 0, none⟩)], .func (.func 107) #[] #[.pointer (some ⟨w1.heap.size + 1 + 1 + 1, 0, none⟩)]] 68)) w2 := by rw [hw2]; exact Ext.refl _
  clear hw2
  replace t := hid (There.ext (There.ext (There.ext (There.ext (There.ext (There.ext t.out ((Ext.refl _).alloc_right _)) ((Ext.refl _).alloc_right _)) ((Ext.refl _).alloc_right _)) ((Ext.refl _).alloc_right _)) ((Ext.refl _).alloc_right _)) hx2)
  replace c0_0_0 := hx2.cell (cell_alloc (cell_alloc (cell_alloc (cell_alloc (cell_alloc c0_0_0 _) _) _) _) _)
  replace c0_0_1 := hx2.cell (cell_alloc (cell_alloc (cell_alloc (cell_alloc (cell_alloc c0_0_1 _) _) _) _) _)
  replace c0_0_2 := hx2.cell (cell_alloc (cell_alloc (cell_alloc (cell_alloc (cell_alloc c0_0_2 _) _) _) _) _)
  replace c0_1_0 := hx2.cell (cell_alloc (cell_alloc (cell_alloc (cell_alloc (cell_alloc c0_1_0 _) _) _) _) _)
  replace c0_1_1 := hx2.cell (cell_alloc (cell_alloc (cell_alloc (cell_alloc (cell_alloc c0_1_1 _) _) _) _) _)
  replace c0_1_2 := hx2.cell (cell_alloc (cell_alloc (cell_alloc (cell_alloc (cell_alloc c0_1_2 _) _) _) _) _)
  replace c0_2_0 := hx2.cell (cell_alloc (cell_alloc (cell_alloc (cell_alloc (cell_alloc c0_2_0 _) _) _) _) _)
  replace c0_2_1 := hx2.cell (cell_alloc (cell_alloc (cell_alloc (cell_alloc (cell_alloc c0_2_1 _) _) _) _) _)
  replace c0_2_2 := hx2.cell (cell_alloc (cell_alloc (cell_alloc (cell_alloc (cell_alloc c0_2_2 _) _) _) _) _)
  have c1_0_0 : w2.cell? ⟨w1.heap.size, 0, none⟩ = some (.func (.func 63) #[] #[]) := hx2.cell (by go_simp)
  have c1_1_0 : w2.cell? ⟨w1.heap.size + 1, 0, none⟩ = some (.func (.func 64) #[] #[]) := hx2.cell (by go_simp)
  have c1_2_0 : w2.cell? ⟨w1.heap.size + 1 + 1, 0, none⟩ = some (.func (.func 65) #[] #[]) := hx2.cell (by go_simp)
  have c1_3_0 : w2.cell? ⟨w1.heap.size + 1 + 1 + 1, 0, none⟩ = some (.func (.func 66) #[] #[]) := hx2.cell (by go_simp)
  have c1_4_0 : w2.cell? ⟨w1.heap.size + 1 + 1 + 1 + 1, 0, none⟩ = some (.func (.func 60) #[] #[]) := hx2.cell (by go_simp)
  have c1_4_1 : w2.cell? ⟨w1.heap.size + 1 + 1 + 1 + 1, 1, none⟩ = some (.func (.func 61) #[] #[]) := hx2.cell (by go_simp)
  have c1_4_2 : w2.cell? ⟨w1.heap.size + 1 + 1 + 1 + 1, 2, none⟩ = some (.func (.func 107) #[] #[.pointer (some ⟨w1.heap.size, 0, none⟩)]) := hx2.cell (by go_simp)
  have c1_4_3 : w2.cell? ⟨w1.heap.size + 1 + 1 + 1 + 1, 3, none⟩ = some (.func (.func 107) #[] #[.pointer (some ⟨w1.heap.size + 1, 0, none⟩)]) := hx2.cell (by go_simp)
  have c1_4_4 : w2.cell? ⟨w1.heap.size + 1 + 1 + 1 + 1, 4, none⟩ = some (.func (.func 107) #[] #[.pointer (some ⟨w1.heap.size + 1 + 1, 0, none⟩)]) := hx2.cell (by go_simp)
  have c1_4_5 : w2.cell? ⟨w1.heap.size + 1 + 1 + 1 + 1, 5, none⟩ = some (.func (.func 107) #[] #[.pointer (some ⟨w1.heap.size + 1 + 1 + 1, 0, none⟩)]) := hx2.cell (by go_simp)
  replace hE := hid (Ext.trans (((((hE.out.alloc_right _).alloc_right _).alloc_right _).alloc_right _).alloc_right _) hx2)
  clear lt_1
  have lt_1 : w.heap.size < w2.heap.size := World.block_lt_of_cell? w2 _ c0_0_0
  clear lt_2
  have lt_2 : w.heap.size + 1 < w2.heap.size := World.block_lt_of_cell? w2 _ c0_1_0
  clear lt_3
  have lt_3 : w.heap.size + 1 + 1 < w2.heap.size := World.block_lt_of_cell? w2 _ c0_2_0
  have lt_4 : w1.heap.size < w2.heap.size := World.block_lt_of_cell? w2 _ c1_0_0
  have lt_5 : w1.heap.size + 1 < w2.heap.size := World.block_lt_of_cell? w2 _ c1_1_0
  have lt_6 : w1.heap.size + 1 + 1 < w2.heap.size := World.block_lt_of_cell? w2 _ c1_2_0
  have lt_7 : w1.heap.size + 1 + 1 + 1 < w2.heap.size := World.block_lt_of_cell? w2 _ c1_3_0
  have lt_8 : w1.heap.size + 1 + 1 + 1 + 1 < w2.heap.size := World.block_lt_of_cell? w2 _ c1_4_0
  clear hx2
  clear c1_0_0 c1_1_0 c1_2_0 c1_3_0 c1_4_1 c1_4_2 c1_4_3 c1_4_4 c1_4_5 c0_2_0 c0_2_1 c0_2_2
  go_upto_region 9 with fail
  go_cut [11] (fun a wx => ∃ g : Nat, a = .pointer (some ⟨g, 0, none⟩) ∧ (wx.cell? ⟨g, 0, none⟩ = some (.int .i64 (addR k n s k' n' s').1) ∧ wx.cell? ⟨g, 1, none⟩ = some (.int .i64 (addR k n s k' n' s').2.1) ∧ wx.cell? ⟨g, 2, none⟩ = some (.string (addR k n s k' n' s').2.2.1) ∧ wx.cell? ⟨g, 3, none⟩ = some (.int .i64 (addR k n s k' n' s').2.2.2)) ∧ g ≠ w.heap.size + 1 + 1 ∧ Hid (There wx (w.heap.size + 1 + 1) 3) ∧ Hid (Ext w wx))
  case first =>
    have HS : Hid (∀ w', Ext w2 w' → (w'.cell? ⟨w.heap.size, 0, none⟩ = some (.int .i64 k) ∧ w'.cell? ⟨w.heap.size, 1, none⟩ = some (.int .i64 n) ∧ w'.cell? ⟨w.heap.size, 2, none⟩ = some (.string s) ∧ w'.cell? ⟨w.heap.size + 1, 0, none⟩ = some (.int .i64 k') ∧ w'.cell? ⟨w.heap.size + 1, 1, none⟩ = some (.int .i64 n') ∧ w'.cell? ⟨w.heap.size + 1, 2, none⟩ = some (.string s') ∧ w'.cell? ⟨w1.heap.size + 1 + 1 + 1 + 1, 0, none⟩ = some (.func (.func 60) #[] #[]) ∧ Ext w2 w')) := fun w' hx => ⟨hx.cell c0_0_0, hx.cell c0_0_1, hx.cell c0_0_2, hx.cell c0_1_0, hx.cell c0_1_1, hx.cell c0_1_2, hx.cell c1_4_0, hx⟩
    have I := hid (HS.out w2.drew (Ext.refl w2).drew_right)
    clear c0_0_0 c0_0_1 c0_0_2 c0_1_0 c0_1_1 c0_1_2 c1_4_0
    have z2 := hid (Nat.le_refl w2.heap.size)
    go_region_held3 (fun w' => w'.cell? ⟨w.heap.size, 0, none⟩ = some (.int .i64 k) ∧ w'.cell? ⟨w.heap.size, 1, none⟩ = some (.int .i64 n) ∧ w'.cell? ⟨w.heap.size, 2, none⟩ = some (.string s) ∧ w'.cell? ⟨w.heap.size + 1, 0, none⟩ = some (.int .i64 k') ∧ w'.cell? ⟨w.heap.size + 1, 1, none⟩ = some (.int .i64 n') ∧ w'.cell? ⟨w.heap.size + 1, 2, none⟩ = some (.string s') ∧ w'.cell? ⟨w1.heap.size + 1 + 1 + 1 + 1, 0, none⟩ = some (.func (.func 60) #[] #[]) ∧ Ext w2 w')
      ((first | exact I.out | (go_split_ands; exact HS.out _ (Ext.alloc_right (by assumption) _)) | (go_split_ands; exact HS.out _ (Ext.trans (by assumption) hx3)) | (go_split_ands; exact HS.out _ (Ext.alloc_right (Ext.trans ((Ext.refl w2).drew_right) hx3) _)) | (go_split_ands; exact HS.out _ (Ext.set (Ext.set (Ext.set (Ext.set (by assumption) (by exact Nat.le_refl _) _) (by exact Nat.le_refl _) _) (by exact Nat.le_refl _) _) (by exact Nat.le_refl _) _))))
      ((first | (go_at_call 60; go_split_ands; refine (add_any k n s k' n' s' _ h1 h2).mono ?_; rintro e w3 ⟨rfl, hx3⟩; unfold rV; (first | (have T3 := There.ext (There.newb w2.drew #[.int .i64 0, .int .i64 0, .string { data := #[] }, .int .i64 0] 70 (n := 4) (b := w2.heap.size) (by simp) (by decide)) hx3; have pg0 := T3.cell (o := 0) (by omega); have pg1 := T3.cell (o := 1) (by omega); have pg2 := T3.cell (o := 2) (by omega); have pg3 := T3.cell (o := 3) (by omega); have fg0 := T3.free (o := 0) (by omega); have fg1 := T3.free (o := 1) (by omega); have fg2 := T3.free (o := 2) (by omega); have fg3 := T3.free (o := 3) (by omega); have T3 := hid T3) | skip))))
    · go_wp2_with fail
      go_meet
      have hy : Ext w2 (w3.alloc (.cells #[.int .i64 (addR k n s k' n' s').1, .int .i64 (addR k n s k' n' s').2.1, .string (addR k n s k' n' s').2.2.1, .int .i64 (addR k n s k' n' s').2.2.2] 70)) := Ext.alloc_right (Ext.trans ((Ext.refl w2).drew_right) hx3) _
      have hsz : w2.heap.size ≤ w3.heap.size := hx3.size
      exact ⟨_, rfl, ⟨by go_simp, by go_simp, by go_simp, by go_simp⟩, by omega, There.ext t.out hy, Ext.trans hE.out hy⟩
    · go_wp2_with fail
      go_meet
      have hy0 : Ext w2 w3 := Ext.trans (((Ext.refl w2).drew_right).alloc_right _) hx3
      have hy := Ext.set (Ext.set (Ext.set (Ext.set hy0 (p := ⟨w2.heap.size, 0, none⟩) (Nat.le_refl _) (.int .i64 (addR k n s k' n' s').1)) (p := ⟨w2.heap.size, 1, none⟩) (Nat.le_refl _) (.int .i64 (addR k n s k' n' s').2.1)) (p := ⟨w2.heap.size, 2, none⟩) (Nat.le_refl _) (.string (addR k n s k' n' s').2.2.1)) (p := ⟨w2.heap.size, 3, none⟩) (Nat.le_refl _) (.int .i64 (addR k n s k' n' s').2.2.2)
      exact ⟨_, rfl, put4 T3.out _ _ _ _, by omega, There.ext t.out hy, Ext.trans hE.out hy⟩
  case rest =>
    obtain ⟨g, rfl, ⟨r0, r1, r2, r3⟩, hg, t', hE'⟩ := hcut
    clear hE t lt_1 lt_2 lt_3 lt_4 lt_5 lt_6 lt_7 lt_8 c0_0_0 c0_0_1 c0_0_2 c0_1_0 c0_1_1 c0_1_2 c1_4_0
    have p0 := t'.out.cell (o := 0) (by omega)
    have f0 := t'.out.free (o := 0) (by omega)
    have p1 := t'.out.cell (o := 1) (by omega)
    have f1 := t'.out.free (o := 1) (by omega)
    have p2 := t'.out.cell (o := 2) (by omega)
    have f2 := t'.out.free (o := 2) (by omega)
    go_wp2_with fail
    go_region
    have kk := hid (put3 t'.out (.int .i64 (addR k n s k' n' s').1) (.int .i64 (addR k n s k' n' s').2.1) (.string (addR k n s k' n' s').2.2.1))
    have Fin := hid (Ext.drew_right (Ext.set (Ext.set (Ext.set hE'.out (p := ⟨w.heap.size + 1 + 1, 0, none⟩) (show w.heap.size ≤ w.heap.size + 1 + 1 by omega) (.int .i64 (addR k n s k' n' s').1)) (p := ⟨w.heap.size + 1 + 1, 1, none⟩) (show w.heap.size ≤ w.heap.size + 1 + 1 by omega) (.int .i64 (addR k n s k' n' s').2.1)) (p := ⟨w.heap.size + 1 + 1, 2, none⟩) (show w.heap.size ≤ w.heap.size + 1 + 1 by omega) (.string (addR k n s k' n' s').2.2.1)))
    clear t' hE' p0 p1 p2 f0 f1 f2 r0 r1 r2 r3 hg
    go_wp2
    obtain ⟨k0, k1, k2⟩ := kk.out
    exact bodyPost_ret (v := .tuple #[.agg #[.int .i64 (addR k n s k' n' s').1, .int .i64 (addR k n s k' n' s').2.1, .string (addR k n s k' n' s').2.2.1], .int .i64 (addR k n s k' n' s').2.2.2, .int .i64 0]) (by simp [results, Tryd.results17, go_sem, k0, k1, k2]) rfl ⟨rfl, Fin.out⟩
set_option maxRecDepth 100000 in
set_option maxHeartbeats 4000000 in
theorem Domul_ok (k n : Int) (s : ByteArray) (k' n' : Int) (s' : ByteArray) (w : World) (h1 : Bd k n s) (h2 : Bd k' n' s') (hk : k ≠ 0) (hk' : k' ≠ 0) : Calls Tryd.prog 17 #[.int .i64 2, vV k n s, vV k' n' s'] w (GiveD (wholeR mulR k n k' n') w) := by
  have hb := bd_both h1 h2
  have d1 : (k == 0) = false := by simpa using hk
  have d2 : (k' == 0) = false := by simpa using hk'
  clear hk hk'
  unfold vV
  go_enter Tryd.func17, Tryd.ntmps17
  go_wp2_with fail
  refine (both_any k n s k' n' s' _).mono ?_
  rintro e w1 ⟨rfl, hx1⟩
  have t := hid (There.ext (There.newb ((w.alloc (.cells #[.int .i64 k, .int .i64 n, .string s] 23)).alloc (.cells #[.int .i64 k', .int .i64 n', .string s'] 23)) #[.int .i64 0, .int .i64 0, .string { data := #[] }] 23 (n := 3) (b := w.heap.size + 1 + 1) (by simp) (by decide)) hx1)
  have c0_0_0 : w1.cell? ⟨w.heap.size, 0, none⟩ = some (.int .i64 k) := hx1.cell (by go_simp)
  have c0_0_1 : w1.cell? ⟨w.heap.size, 1, none⟩ = some (.int .i64 n) := hx1.cell (by go_simp)
  have c0_0_2 : w1.cell? ⟨w.heap.size, 2, none⟩ = some (.string s) := hx1.cell (by go_simp)
  have c0_1_0 : w1.cell? ⟨w.heap.size + 1, 0, none⟩ = some (.int .i64 k') := hx1.cell (by go_simp)
  have c0_1_1 : w1.cell? ⟨w.heap.size + 1, 1, none⟩ = some (.int .i64 n') := hx1.cell (by go_simp)
  have c0_1_2 : w1.cell? ⟨w.heap.size + 1, 2, none⟩ = some (.string s') := hx1.cell (by go_simp)
  have c0_2_0 : w1.cell? ⟨w.heap.size + 1 + 1, 0, none⟩ = some (.int .i64 0) := hx1.cell (by go_simp)
  have c0_2_1 : w1.cell? ⟨w.heap.size + 1 + 1, 1, none⟩ = some (.int .i64 0) := hx1.cell (by go_simp)
  have c0_2_2 : w1.cell? ⟨w.heap.size + 1 + 1, 2, none⟩ = some (.string { data := #[] }) := hx1.cell (by go_simp)
  have hE := hid (Ext.trans ((((Ext.refl w).alloc_right _).alloc_right _).alloc_right _) hx1)
  have lt_1 : w.heap.size < w1.heap.size := World.block_lt_of_cell? w1 _ c0_0_0
  have lt_2 : w.heap.size + 1 < w1.heap.size := World.block_lt_of_cell? w1 _ c0_1_0
  have lt_3 : w.heap.size + 1 + 1 < w1.heap.size := World.block_lt_of_cell? w1 _ c0_2_0
  clear hx1
  rw [hb]
  go_wp2_with fail
  refine (whole_any _ _).mono ?_
  rintro e w' ⟨rfl, rfl⟩
  go_wp2_with fail
  refine (whole_any _ _).mono ?_
  rintro e w' ⟨rfl, rfl⟩
  go_wp2_with fail
  refine (whole_any _ _).mono ?_
  rintro e w' ⟨rfl, rfl⟩
  go_wp2_with fail
  refine (whole_any _ _).mono ?_
  rintro e w' ⟨rfl, rfl⟩
  go_upto_region 5 with fail
  generalize hw2 : (((((w1.alloc (.cells #[.func (.func 63) #[] #[]] 67)).alloc (.cells #[.func (.func 64) #[] #[]] 67)).alloc (.cells #[.func (.func 65) #[] #[]] 67)).alloc (.cells #[.func (.func 66) #[] #[]] 67)).alloc (.cells #[.func (.func 60) #[] #[], .func (.func 61) #[] #[], .func (.func 107) #[] #[.pointer (some ⟨w1.heap.size, 0, none⟩)], .func (.func 107) #[] #[.pointer (some ⟨w1.heap.size + 1, 0, none⟩)], .func (.func 107) #[] #[.pointer (some ⟨w1.heap.size + 1 + 1, 0, none⟩)], .func (.func 107) #[] #[.pointer (some ⟨w1.heap.size + 1 + 1 + 1, 0, none⟩)]] 68)) = w2
  have hx2 : Ext (((((w1.alloc (.cells #[.func (.func 63) #[] #[]] 67)).alloc (.cells #[.func (.func 64) #[] #[]] 67)).alloc (.cells #[.func (.func 65) #[] #[]] 67)).alloc (.cells #[.func (.func 66) #[] #[]] 67)).alloc (.cells #[.func (.func 60) #[] #[], .func (.func 61) #[] #[], .func (.func 107) #[] #[.pointer (some ⟨w1.heap.size, 0, none⟩)], .func (.func 107) #[] #[.pointer (some ⟨w1.heap.size + 1, 0, none⟩)], .func (.func 107) #[] #[.pointer (some ⟨w1.heap.size + 1 + 1, 0, none⟩)], .func (.func 107) #[] #[.pointer (some ⟨w1.heap.size + 1 + 1 + 1, 0, none⟩)]] 68)) w2 := by rw [hw2]; exact Ext.refl _
  clear hw2
  replace t := hid (There.ext (There.ext (There.ext (There.ext (There.ext (There.ext t.out ((Ext.refl _).alloc_right _)) ((Ext.refl _).alloc_right _)) ((Ext.refl _).alloc_right _)) ((Ext.refl _).alloc_right _)) ((Ext.refl _).alloc_right _)) hx2)
  replace c0_0_0 := hx2.cell (cell_alloc (cell_alloc (cell_alloc (cell_alloc (cell_alloc c0_0_0 _) _) _) _) _)
  replace c0_0_1 := hx2.cell (cell_alloc (cell_alloc (cell_alloc (cell_alloc (cell_alloc c0_0_1 _) _) _) _) _)
  replace c0_0_2 := hx2.cell (cell_alloc (cell_alloc (cell_alloc (cell_alloc (cell_alloc c0_0_2 _) _) _) _) _)
  replace c0_1_0 := hx2.cell (cell_alloc (cell_alloc (cell_alloc (cell_alloc (cell_alloc c0_1_0 _) _) _) _) _)
  replace c0_1_1 := hx2.cell (cell_alloc (cell_alloc (cell_alloc (cell_alloc (cell_alloc c0_1_1 _) _) _) _) _)
  replace c0_1_2 := hx2.cell (cell_alloc (cell_alloc (cell_alloc (cell_alloc (cell_alloc c0_1_2 _) _) _) _) _)
  replace c0_2_0 := hx2.cell (cell_alloc (cell_alloc (cell_alloc (cell_alloc (cell_alloc c0_2_0 _) _) _) _) _)
  replace c0_2_1 := hx2.cell (cell_alloc (cell_alloc (cell_alloc (cell_alloc (cell_alloc c0_2_1 _) _) _) _) _)
  replace c0_2_2 := hx2.cell (cell_alloc (cell_alloc (cell_alloc (cell_alloc (cell_alloc c0_2_2 _) _) _) _) _)
  have c1_0_0 : w2.cell? ⟨w1.heap.size, 0, none⟩ = some (.func (.func 63) #[] #[]) := hx2.cell (by go_simp)
  have c1_1_0 : w2.cell? ⟨w1.heap.size + 1, 0, none⟩ = some (.func (.func 64) #[] #[]) := hx2.cell (by go_simp)
  have c1_2_0 : w2.cell? ⟨w1.heap.size + 1 + 1, 0, none⟩ = some (.func (.func 65) #[] #[]) := hx2.cell (by go_simp)
  have c1_3_0 : w2.cell? ⟨w1.heap.size + 1 + 1 + 1, 0, none⟩ = some (.func (.func 66) #[] #[]) := hx2.cell (by go_simp)
  have c1_4_0 : w2.cell? ⟨w1.heap.size + 1 + 1 + 1 + 1, 0, none⟩ = some (.func (.func 60) #[] #[]) := hx2.cell (by go_simp)
  have c1_4_1 : w2.cell? ⟨w1.heap.size + 1 + 1 + 1 + 1, 1, none⟩ = some (.func (.func 61) #[] #[]) := hx2.cell (by go_simp)
  have c1_4_2 : w2.cell? ⟨w1.heap.size + 1 + 1 + 1 + 1, 2, none⟩ = some (.func (.func 107) #[] #[.pointer (some ⟨w1.heap.size, 0, none⟩)]) := hx2.cell (by go_simp)
  have c1_4_3 : w2.cell? ⟨w1.heap.size + 1 + 1 + 1 + 1, 3, none⟩ = some (.func (.func 107) #[] #[.pointer (some ⟨w1.heap.size + 1, 0, none⟩)]) := hx2.cell (by go_simp)
  have c1_4_4 : w2.cell? ⟨w1.heap.size + 1 + 1 + 1 + 1, 4, none⟩ = some (.func (.func 107) #[] #[.pointer (some ⟨w1.heap.size + 1 + 1, 0, none⟩)]) := hx2.cell (by go_simp)
  have c1_4_5 : w2.cell? ⟨w1.heap.size + 1 + 1 + 1 + 1, 5, none⟩ = some (.func (.func 107) #[] #[.pointer (some ⟨w1.heap.size + 1 + 1 + 1, 0, none⟩)]) := hx2.cell (by go_simp)
  replace hE := hid (Ext.trans (((((hE.out.alloc_right _).alloc_right _).alloc_right _).alloc_right _).alloc_right _) hx2)
  clear lt_1
  have lt_1 : w.heap.size < w2.heap.size := World.block_lt_of_cell? w2 _ c0_0_0
  clear lt_2
  have lt_2 : w.heap.size + 1 < w2.heap.size := World.block_lt_of_cell? w2 _ c0_1_0
  clear lt_3
  have lt_3 : w.heap.size + 1 + 1 < w2.heap.size := World.block_lt_of_cell? w2 _ c0_2_0
  have lt_4 : w1.heap.size < w2.heap.size := World.block_lt_of_cell? w2 _ c1_0_0
  have lt_5 : w1.heap.size + 1 < w2.heap.size := World.block_lt_of_cell? w2 _ c1_1_0
  have lt_6 : w1.heap.size + 1 + 1 < w2.heap.size := World.block_lt_of_cell? w2 _ c1_2_0
  have lt_7 : w1.heap.size + 1 + 1 + 1 < w2.heap.size := World.block_lt_of_cell? w2 _ c1_3_0
  have lt_8 : w1.heap.size + 1 + 1 + 1 + 1 < w2.heap.size := World.block_lt_of_cell? w2 _ c1_4_0
  clear hx2
  clear c1_1_0 c1_2_0 c1_3_0 c1_4_0 c1_4_1 c1_4_3 c1_4_4 c1_4_5 c0_2_0 c0_2_1 c0_2_2
  go_upto_region 9 with fail
  go_cut [11] (fun a wx => ∃ g : Nat, a = .pointer (some ⟨g, 0, none⟩) ∧ (wx.cell? ⟨g, 0, none⟩ = some (.int .i64 (wholeR mulR k n k' n').1) ∧ wx.cell? ⟨g, 1, none⟩ = some (.int .i64 (wholeR mulR k n k' n').2.1) ∧ wx.cell? ⟨g, 2, none⟩ = some (.string (wholeR mulR k n k' n').2.2.1) ∧ wx.cell? ⟨g, 3, none⟩ = some (.int .i64 (wholeR mulR k n k' n').2.2.2)) ∧ g ≠ w.heap.size + 1 + 1 ∧ Hid (There wx (w.heap.size + 1 + 1) 3) ∧ Hid (Ext w wx))
  case first =>
    have HS : Hid (∀ w', Ext w2 w' → (w'.cell? ⟨w.heap.size, 0, none⟩ = some (.int .i64 k) ∧ w'.cell? ⟨w.heap.size, 1, none⟩ = some (.int .i64 n) ∧ w'.cell? ⟨w.heap.size, 2, none⟩ = some (.string s) ∧ w'.cell? ⟨w.heap.size + 1, 0, none⟩ = some (.int .i64 k') ∧ w'.cell? ⟨w.heap.size + 1, 1, none⟩ = some (.int .i64 n') ∧ w'.cell? ⟨w.heap.size + 1, 2, none⟩ = some (.string s') ∧ w'.cell? ⟨w1.heap.size, 0, none⟩ = some (.func (.func 63) #[] #[]) ∧ w'.cell? ⟨w1.heap.size + 1 + 1 + 1 + 1, 2, none⟩ = some (.func (.func 107) #[] #[.pointer (some ⟨w1.heap.size, 0, none⟩)]) ∧ Ext w2 w')) := fun w' hx => ⟨hx.cell c0_0_0, hx.cell c0_0_1, hx.cell c0_0_2, hx.cell c0_1_0, hx.cell c0_1_1, hx.cell c0_1_2, hx.cell c1_0_0, hx.cell c1_4_2, hx⟩
    have I := hid (HS.out w2.drew (Ext.refl w2).drew_right)
    clear c0_0_0 c0_0_1 c0_0_2 c0_1_0 c0_1_1 c0_1_2 c1_0_0 c1_4_2
    have z2 := hid (Nat.le_refl w2.heap.size)
    go_region_held3 (fun w' => w'.cell? ⟨w.heap.size, 0, none⟩ = some (.int .i64 k) ∧ w'.cell? ⟨w.heap.size, 1, none⟩ = some (.int .i64 n) ∧ w'.cell? ⟨w.heap.size, 2, none⟩ = some (.string s) ∧ w'.cell? ⟨w.heap.size + 1, 0, none⟩ = some (.int .i64 k') ∧ w'.cell? ⟨w.heap.size + 1, 1, none⟩ = some (.int .i64 n') ∧ w'.cell? ⟨w.heap.size + 1, 2, none⟩ = some (.string s') ∧ w'.cell? ⟨w1.heap.size, 0, none⟩ = some (.func (.func 63) #[] #[]) ∧ w'.cell? ⟨w1.heap.size + 1 + 1 + 1 + 1, 2, none⟩ = some (.func (.func 107) #[] #[.pointer (some ⟨w1.heap.size, 0, none⟩)]) ∧ Ext w2 w')
      ((first | exact I.out | (go_split_ands; exact HS.out _ (Ext.alloc_right (by assumption) _)) | (go_split_ands; exact HS.out _ (Ext.trans (by assumption) hx3)) | (go_split_ands; exact HS.out _ (Ext.alloc_right (Ext.trans ((Ext.refl w2).drew_right) hx3) _)) | (go_split_ands; exact HS.out _ (Ext.set (Ext.set (Ext.set (Ext.set (by assumption) (by exact Nat.le_refl _) _) (by exact Nat.le_refl _) _) (by exact Nat.le_refl _) _) (by exact Nat.le_refl _) _))))
      ((first | (go_at_call 107; go_split_ands; refine (whole1_any 63 mulR enter_mul (fun x y w hx hy => mul_any x y w hx hy) k n s k' n' s' (w1.heap.size) _ (by assumption) h1 h2).mono ?_; rintro e w3 ⟨rfl, hx3⟩; unfold rV; (first | (have T3 := There.ext (There.newb w2.drew #[.int .i64 0, .int .i64 0, .string { data := #[] }, .int .i64 0] 70 (n := 4) (b := w2.heap.size) (by simp) (by decide)) hx3; have pg0 := T3.cell (o := 0) (by omega); have pg1 := T3.cell (o := 1) (by omega); have pg2 := T3.cell (o := 2) (by omega); have pg3 := T3.cell (o := 3) (by omega); have fg0 := T3.free (o := 0) (by omega); have fg1 := T3.free (o := 1) (by omega); have fg2 := T3.free (o := 2) (by omega); have fg3 := T3.free (o := 3) (by omega); have T3 := hid T3) | skip))))
    · go_wp2_with fail
      go_meet
      have hy : Ext w2 (w3.alloc (.cells #[.int .i64 (wholeR mulR k n k' n').1, .int .i64 (wholeR mulR k n k' n').2.1, .string (wholeR mulR k n k' n').2.2.1, .int .i64 (wholeR mulR k n k' n').2.2.2] 70)) := Ext.alloc_right (Ext.trans ((Ext.refl w2).drew_right) hx3) _
      have hsz : w2.heap.size ≤ w3.heap.size := hx3.size
      exact ⟨_, rfl, ⟨by go_simp, by go_simp, by go_simp, by go_simp⟩, by omega, There.ext t.out hy, Ext.trans hE.out hy⟩
    · go_wp2_with fail
      go_meet
      have hy0 : Ext w2 w3 := Ext.trans (((Ext.refl w2).drew_right).alloc_right _) hx3
      have hy := Ext.set (Ext.set (Ext.set (Ext.set hy0 (p := ⟨w2.heap.size, 0, none⟩) (Nat.le_refl _) (.int .i64 (wholeR mulR k n k' n').1)) (p := ⟨w2.heap.size, 1, none⟩) (Nat.le_refl _) (.int .i64 (wholeR mulR k n k' n').2.1)) (p := ⟨w2.heap.size, 2, none⟩) (Nat.le_refl _) (.string (wholeR mulR k n k' n').2.2.1)) (p := ⟨w2.heap.size, 3, none⟩) (Nat.le_refl _) (.int .i64 (wholeR mulR k n k' n').2.2.2)
      exact ⟨_, rfl, put4 T3.out _ _ _ _, by omega, There.ext t.out hy, Ext.trans hE.out hy⟩
  case rest =>
    obtain ⟨g, rfl, ⟨r0, r1, r2, r3⟩, hg, t', hE'⟩ := hcut
    clear hE t lt_1 lt_2 lt_3 lt_4 lt_5 lt_6 lt_7 lt_8 c0_0_0 c0_0_1 c0_0_2 c0_1_0 c0_1_1 c0_1_2 c1_0_0 c1_4_2
    have p0 := t'.out.cell (o := 0) (by omega)
    have f0 := t'.out.free (o := 0) (by omega)
    have p1 := t'.out.cell (o := 1) (by omega)
    have f1 := t'.out.free (o := 1) (by omega)
    have p2 := t'.out.cell (o := 2) (by omega)
    have f2 := t'.out.free (o := 2) (by omega)
    go_wp2_with fail
    go_region
    have kk := hid (put3 t'.out (.int .i64 (wholeR mulR k n k' n').1) (.int .i64 (wholeR mulR k n k' n').2.1) (.string (wholeR mulR k n k' n').2.2.1))
    have Fin := hid (Ext.drew_right (Ext.set (Ext.set (Ext.set hE'.out (p := ⟨w.heap.size + 1 + 1, 0, none⟩) (show w.heap.size ≤ w.heap.size + 1 + 1 by omega) (.int .i64 (wholeR mulR k n k' n').1)) (p := ⟨w.heap.size + 1 + 1, 1, none⟩) (show w.heap.size ≤ w.heap.size + 1 + 1 by omega) (.int .i64 (wholeR mulR k n k' n').2.1)) (p := ⟨w.heap.size + 1 + 1, 2, none⟩) (show w.heap.size ≤ w.heap.size + 1 + 1 by omega) (.string (wholeR mulR k n k' n').2.2.1)))
    clear t' hE' p0 p1 p2 f0 f1 f2 r0 r1 r2 r3 hg
    go_wp2
    obtain ⟨k0, k1, k2⟩ := kk.out
    exact bodyPost_ret (v := .tuple #[.agg #[.int .i64 (wholeR mulR k n k' n').1, .int .i64 (wholeR mulR k n k' n').2.1, .string (wholeR mulR k n k' n').2.2.1], .int .i64 (wholeR mulR k n k' n').2.2.2, .int .i64 0]) (by simp [results, Tryd.results17, go_sem, k0, k1, k2]) rfl ⟨rfl, Fin.out⟩
set_option maxRecDepth 100000 in
set_option maxHeartbeats 4000000 in
theorem Dodiv_ok (k n : Int) (s : ByteArray) (k' n' : Int) (s' : ByteArray) (w : World) (h1 : Bd k n s) (h2 : Bd k' n' s') (hk : k ≠ 0) (hk' : k' ≠ 0) : Calls Tryd.prog 17 #[.int .i64 3, vV k n s, vV k' n' s'] w (GiveD (wholeR divR k n k' n') w) := by
  have hb := bd_both h1 h2
  have d1 : (k == 0) = false := by simpa using hk
  have d2 : (k' == 0) = false := by simpa using hk'
  clear hk hk'
  unfold vV
  go_enter Tryd.func17, Tryd.ntmps17
  go_wp2_with fail
  refine (both_any k n s k' n' s' _).mono ?_
  rintro e w1 ⟨rfl, hx1⟩
  have t := hid (There.ext (There.newb ((w.alloc (.cells #[.int .i64 k, .int .i64 n, .string s] 23)).alloc (.cells #[.int .i64 k', .int .i64 n', .string s'] 23)) #[.int .i64 0, .int .i64 0, .string { data := #[] }] 23 (n := 3) (b := w.heap.size + 1 + 1) (by simp) (by decide)) hx1)
  have c0_0_0 : w1.cell? ⟨w.heap.size, 0, none⟩ = some (.int .i64 k) := hx1.cell (by go_simp)
  have c0_0_1 : w1.cell? ⟨w.heap.size, 1, none⟩ = some (.int .i64 n) := hx1.cell (by go_simp)
  have c0_0_2 : w1.cell? ⟨w.heap.size, 2, none⟩ = some (.string s) := hx1.cell (by go_simp)
  have c0_1_0 : w1.cell? ⟨w.heap.size + 1, 0, none⟩ = some (.int .i64 k') := hx1.cell (by go_simp)
  have c0_1_1 : w1.cell? ⟨w.heap.size + 1, 1, none⟩ = some (.int .i64 n') := hx1.cell (by go_simp)
  have c0_1_2 : w1.cell? ⟨w.heap.size + 1, 2, none⟩ = some (.string s') := hx1.cell (by go_simp)
  have c0_2_0 : w1.cell? ⟨w.heap.size + 1 + 1, 0, none⟩ = some (.int .i64 0) := hx1.cell (by go_simp)
  have c0_2_1 : w1.cell? ⟨w.heap.size + 1 + 1, 1, none⟩ = some (.int .i64 0) := hx1.cell (by go_simp)
  have c0_2_2 : w1.cell? ⟨w.heap.size + 1 + 1, 2, none⟩ = some (.string { data := #[] }) := hx1.cell (by go_simp)
  have hE := hid (Ext.trans ((((Ext.refl w).alloc_right _).alloc_right _).alloc_right _) hx1)
  have lt_1 : w.heap.size < w1.heap.size := World.block_lt_of_cell? w1 _ c0_0_0
  have lt_2 : w.heap.size + 1 < w1.heap.size := World.block_lt_of_cell? w1 _ c0_1_0
  have lt_3 : w.heap.size + 1 + 1 < w1.heap.size := World.block_lt_of_cell? w1 _ c0_2_0
  clear hx1
  rw [hb]
  go_wp2_with fail
  refine (whole_any _ _).mono ?_
  rintro e w' ⟨rfl, rfl⟩
  go_wp2_with fail
  refine (whole_any _ _).mono ?_
  rintro e w' ⟨rfl, rfl⟩
  go_wp2_with fail
  refine (whole_any _ _).mono ?_
  rintro e w' ⟨rfl, rfl⟩
  go_wp2_with fail
  refine (whole_any _ _).mono ?_
  rintro e w' ⟨rfl, rfl⟩
  go_upto_region 5 with fail
  generalize hw2 : (((((w1.alloc (.cells #[.func (.func 63) #[] #[]] 67)).alloc (.cells #[.func (.func 64) #[] #[]] 67)).alloc (.cells #[.func (.func 65) #[] #[]] 67)).alloc (.cells #[.func (.func 66) #[] #[]] 67)).alloc (.cells #[.func (.func 60) #[] #[], .func (.func 61) #[] #[], .func (.func 107) #[] #[.pointer (some ⟨w1.heap.size, 0, none⟩)], .func (.func 107) #[] #[.pointer (some ⟨w1.heap.size + 1, 0, none⟩)], .func (.func 107) #[] #[.pointer (some ⟨w1.heap.size + 1 + 1, 0, none⟩)], .func (.func 107) #[] #[.pointer (some ⟨w1.heap.size + 1 + 1 + 1, 0, none⟩)]] 68)) = w2
  have hx2 : Ext (((((w1.alloc (.cells #[.func (.func 63) #[] #[]] 67)).alloc (.cells #[.func (.func 64) #[] #[]] 67)).alloc (.cells #[.func (.func 65) #[] #[]] 67)).alloc (.cells #[.func (.func 66) #[] #[]] 67)).alloc (.cells #[.func (.func 60) #[] #[], .func (.func 61) #[] #[], .func (.func 107) #[] #[.pointer (some ⟨w1.heap.size, 0, none⟩)], .func (.func 107) #[] #[.pointer (some ⟨w1.heap.size + 1, 0, none⟩)], .func (.func 107) #[] #[.pointer (some ⟨w1.heap.size + 1 + 1, 0, none⟩)], .func (.func 107) #[] #[.pointer (some ⟨w1.heap.size + 1 + 1 + 1, 0, none⟩)]] 68)) w2 := by rw [hw2]; exact Ext.refl _
  clear hw2
  replace t := hid (There.ext (There.ext (There.ext (There.ext (There.ext (There.ext t.out ((Ext.refl _).alloc_right _)) ((Ext.refl _).alloc_right _)) ((Ext.refl _).alloc_right _)) ((Ext.refl _).alloc_right _)) ((Ext.refl _).alloc_right _)) hx2)
  replace c0_0_0 := hx2.cell (cell_alloc (cell_alloc (cell_alloc (cell_alloc (cell_alloc c0_0_0 _) _) _) _) _)
  replace c0_0_1 := hx2.cell (cell_alloc (cell_alloc (cell_alloc (cell_alloc (cell_alloc c0_0_1 _) _) _) _) _)
  replace c0_0_2 := hx2.cell (cell_alloc (cell_alloc (cell_alloc (cell_alloc (cell_alloc c0_0_2 _) _) _) _) _)
  replace c0_1_0 := hx2.cell (cell_alloc (cell_alloc (cell_alloc (cell_alloc (cell_alloc c0_1_0 _) _) _) _) _)
  replace c0_1_1 := hx2.cell (cell_alloc (cell_alloc (cell_alloc (cell_alloc (cell_alloc c0_1_1 _) _) _) _) _)
  replace c0_1_2 := hx2.cell (cell_alloc (cell_alloc (cell_alloc (cell_alloc (cell_alloc c0_1_2 _) _) _) _) _)
  replace c0_2_0 := hx2.cell (cell_alloc (cell_alloc (cell_alloc (cell_alloc (cell_alloc c0_2_0 _) _) _) _) _)
  replace c0_2_1 := hx2.cell (cell_alloc (cell_alloc (cell_alloc (cell_alloc (cell_alloc c0_2_1 _) _) _) _) _)
  replace c0_2_2 := hx2.cell (cell_alloc (cell_alloc (cell_alloc (cell_alloc (cell_alloc c0_2_2 _) _) _) _) _)
  have c1_0_0 : w2.cell? ⟨w1.heap.size, 0, none⟩ = some (.func (.func 63) #[] #[]) := hx2.cell (by go_simp)
  have c1_1_0 : w2.cell? ⟨w1.heap.size + 1, 0, none⟩ = some (.func (.func 64) #[] #[]) := hx2.cell (by go_simp)
  have c1_2_0 : w2.cell? ⟨w1.heap.size + 1 + 1, 0, none⟩ = some (.func (.func 65) #[] #[]) := hx2.cell (by go_simp)
  have c1_3_0 : w2.cell? ⟨w1.heap.size + 1 + 1 + 1, 0, none⟩ = some (.func (.func 66) #[] #[]) := hx2.cell (by go_simp)
  have c1_4_0 : w2.cell? ⟨w1.heap.size + 1 + 1 + 1 + 1, 0, none⟩ = some (.func (.func 60) #[] #[]) := hx2.cell (by go_simp)
  have c1_4_1 : w2.cell? ⟨w1.heap.size + 1 + 1 + 1 + 1, 1, none⟩ = some (.func (.func 61) #[] #[]) := hx2.cell (by go_simp)
  have c1_4_2 : w2.cell? ⟨w1.heap.size + 1 + 1 + 1 + 1, 2, none⟩ = some (.func (.func 107) #[] #[.pointer (some ⟨w1.heap.size, 0, none⟩)]) := hx2.cell (by go_simp)
  have c1_4_3 : w2.cell? ⟨w1.heap.size + 1 + 1 + 1 + 1, 3, none⟩ = some (.func (.func 107) #[] #[.pointer (some ⟨w1.heap.size + 1, 0, none⟩)]) := hx2.cell (by go_simp)
  have c1_4_4 : w2.cell? ⟨w1.heap.size + 1 + 1 + 1 + 1, 4, none⟩ = some (.func (.func 107) #[] #[.pointer (some ⟨w1.heap.size + 1 + 1, 0, none⟩)]) := hx2.cell (by go_simp)
  have c1_4_5 : w2.cell? ⟨w1.heap.size + 1 + 1 + 1 + 1, 5, none⟩ = some (.func (.func 107) #[] #[.pointer (some ⟨w1.heap.size + 1 + 1 + 1, 0, none⟩)]) := hx2.cell (by go_simp)
  replace hE := hid (Ext.trans (((((hE.out.alloc_right _).alloc_right _).alloc_right _).alloc_right _).alloc_right _) hx2)
  clear lt_1
  have lt_1 : w.heap.size < w2.heap.size := World.block_lt_of_cell? w2 _ c0_0_0
  clear lt_2
  have lt_2 : w.heap.size + 1 < w2.heap.size := World.block_lt_of_cell? w2 _ c0_1_0
  clear lt_3
  have lt_3 : w.heap.size + 1 + 1 < w2.heap.size := World.block_lt_of_cell? w2 _ c0_2_0
  have lt_4 : w1.heap.size < w2.heap.size := World.block_lt_of_cell? w2 _ c1_0_0
  have lt_5 : w1.heap.size + 1 < w2.heap.size := World.block_lt_of_cell? w2 _ c1_1_0
  have lt_6 : w1.heap.size + 1 + 1 < w2.heap.size := World.block_lt_of_cell? w2 _ c1_2_0
  have lt_7 : w1.heap.size + 1 + 1 + 1 < w2.heap.size := World.block_lt_of_cell? w2 _ c1_3_0
  have lt_8 : w1.heap.size + 1 + 1 + 1 + 1 < w2.heap.size := World.block_lt_of_cell? w2 _ c1_4_0
  clear hx2
  clear c1_0_0 c1_2_0 c1_3_0 c1_4_0 c1_4_1 c1_4_2 c1_4_4 c1_4_5 c0_2_0 c0_2_1 c0_2_2
  go_upto_region 9 with fail
  go_cut [11] (fun a wx => ∃ g : Nat, a = .pointer (some ⟨g, 0, none⟩) ∧ (wx.cell? ⟨g, 0, none⟩ = some (.int .i64 (wholeR divR k n k' n').1) ∧ wx.cell? ⟨g, 1, none⟩ = some (.int .i64 (wholeR divR k n k' n').2.1) ∧ wx.cell? ⟨g, 2, none⟩ = some (.string (wholeR divR k n k' n').2.2.1) ∧ wx.cell? ⟨g, 3, none⟩ = some (.int .i64 (wholeR divR k n k' n').2.2.2)) ∧ g ≠ w.heap.size + 1 + 1 ∧ Hid (There wx (w.heap.size + 1 + 1) 3) ∧ Hid (Ext w wx))
  case first =>
    have HS : Hid (∀ w', Ext w2 w' → (w'.cell? ⟨w.heap.size, 0, none⟩ = some (.int .i64 k) ∧ w'.cell? ⟨w.heap.size, 1, none⟩ = some (.int .i64 n) ∧ w'.cell? ⟨w.heap.size, 2, none⟩ = some (.string s) ∧ w'.cell? ⟨w.heap.size + 1, 0, none⟩ = some (.int .i64 k') ∧ w'.cell? ⟨w.heap.size + 1, 1, none⟩ = some (.int .i64 n') ∧ w'.cell? ⟨w.heap.size + 1, 2, none⟩ = some (.string s') ∧ w'.cell? ⟨w1.heap.size + 1, 0, none⟩ = some (.func (.func 64) #[] #[]) ∧ w'.cell? ⟨w1.heap.size + 1 + 1 + 1 + 1, 3, none⟩ = some (.func (.func 107) #[] #[.pointer (some ⟨w1.heap.size + 1, 0, none⟩)]) ∧ Ext w2 w')) := fun w' hx => ⟨hx.cell c0_0_0, hx.cell c0_0_1, hx.cell c0_0_2, hx.cell c0_1_0, hx.cell c0_1_1, hx.cell c0_1_2, hx.cell c1_1_0, hx.cell c1_4_3, hx⟩
    have I := hid (HS.out w2.drew (Ext.refl w2).drew_right)
    clear c0_0_0 c0_0_1 c0_0_2 c0_1_0 c0_1_1 c0_1_2 c1_1_0 c1_4_3
    have z2 := hid (Nat.le_refl w2.heap.size)
    go_region_held3 (fun w' => w'.cell? ⟨w.heap.size, 0, none⟩ = some (.int .i64 k) ∧ w'.cell? ⟨w.heap.size, 1, none⟩ = some (.int .i64 n) ∧ w'.cell? ⟨w.heap.size, 2, none⟩ = some (.string s) ∧ w'.cell? ⟨w.heap.size + 1, 0, none⟩ = some (.int .i64 k') ∧ w'.cell? ⟨w.heap.size + 1, 1, none⟩ = some (.int .i64 n') ∧ w'.cell? ⟨w.heap.size + 1, 2, none⟩ = some (.string s') ∧ w'.cell? ⟨w1.heap.size + 1, 0, none⟩ = some (.func (.func 64) #[] #[]) ∧ w'.cell? ⟨w1.heap.size + 1 + 1 + 1 + 1, 3, none⟩ = some (.func (.func 107) #[] #[.pointer (some ⟨w1.heap.size + 1, 0, none⟩)]) ∧ Ext w2 w')
      ((first | exact I.out | (go_split_ands; exact HS.out _ (Ext.alloc_right (by assumption) _)) | (go_split_ands; exact HS.out _ (Ext.trans (by assumption) hx3)) | (go_split_ands; exact HS.out _ (Ext.alloc_right (Ext.trans ((Ext.refl w2).drew_right) hx3) _)) | (go_split_ands; exact HS.out _ (Ext.set (Ext.set (Ext.set (Ext.set (by assumption) (by exact Nat.le_refl _) _) (by exact Nat.le_refl _) _) (by exact Nat.le_refl _) _) (by exact Nat.le_refl _) _))))
      ((first | (go_at_call 107; go_split_ands; refine (whole1_any 64 divR enter_div (fun x y w hx hy => div_any x y w hx hy) k n s k' n' s' (w1.heap.size + 1) _ (by assumption) h1 h2).mono ?_; rintro e w3 ⟨rfl, hx3⟩; unfold rV; (first | (have T3 := There.ext (There.newb w2.drew #[.int .i64 0, .int .i64 0, .string { data := #[] }, .int .i64 0] 70 (n := 4) (b := w2.heap.size) (by simp) (by decide)) hx3; have pg0 := T3.cell (o := 0) (by omega); have pg1 := T3.cell (o := 1) (by omega); have pg2 := T3.cell (o := 2) (by omega); have pg3 := T3.cell (o := 3) (by omega); have fg0 := T3.free (o := 0) (by omega); have fg1 := T3.free (o := 1) (by omega); have fg2 := T3.free (o := 2) (by omega); have fg3 := T3.free (o := 3) (by omega); have T3 := hid T3) | skip))))
    · go_wp2_with fail
      go_meet
      have hy : Ext w2 (w3.alloc (.cells #[.int .i64 (wholeR divR k n k' n').1, .int .i64 (wholeR divR k n k' n').2.1, .string (wholeR divR k n k' n').2.2.1, .int .i64 (wholeR divR k n k' n').2.2.2] 70)) := Ext.alloc_right (Ext.trans ((Ext.refl w2).drew_right) hx3) _
      have hsz : w2.heap.size ≤ w3.heap.size := hx3.size
      exact ⟨_, rfl, ⟨by go_simp, by go_simp, by go_simp, by go_simp⟩, by omega, There.ext t.out hy, Ext.trans hE.out hy⟩
    · go_wp2_with fail
      go_meet
      have hy0 : Ext w2 w3 := Ext.trans (((Ext.refl w2).drew_right).alloc_right _) hx3
      have hy := Ext.set (Ext.set (Ext.set (Ext.set hy0 (p := ⟨w2.heap.size, 0, none⟩) (Nat.le_refl _) (.int .i64 (wholeR divR k n k' n').1)) (p := ⟨w2.heap.size, 1, none⟩) (Nat.le_refl _) (.int .i64 (wholeR divR k n k' n').2.1)) (p := ⟨w2.heap.size, 2, none⟩) (Nat.le_refl _) (.string (wholeR divR k n k' n').2.2.1)) (p := ⟨w2.heap.size, 3, none⟩) (Nat.le_refl _) (.int .i64 (wholeR divR k n k' n').2.2.2)
      exact ⟨_, rfl, put4 T3.out _ _ _ _, by omega, There.ext t.out hy, Ext.trans hE.out hy⟩
  case rest =>
    obtain ⟨g, rfl, ⟨r0, r1, r2, r3⟩, hg, t', hE'⟩ := hcut
    clear hE t lt_1 lt_2 lt_3 lt_4 lt_5 lt_6 lt_7 lt_8 c0_0_0 c0_0_1 c0_0_2 c0_1_0 c0_1_1 c0_1_2 c1_1_0 c1_4_3
    have p0 := t'.out.cell (o := 0) (by omega)
    have f0 := t'.out.free (o := 0) (by omega)
    have p1 := t'.out.cell (o := 1) (by omega)
    have f1 := t'.out.free (o := 1) (by omega)
    have p2 := t'.out.cell (o := 2) (by omega)
    have f2 := t'.out.free (o := 2) (by omega)
    go_wp2_with fail
    go_region
    have kk := hid (put3 t'.out (.int .i64 (wholeR divR k n k' n').1) (.int .i64 (wholeR divR k n k' n').2.1) (.string (wholeR divR k n k' n').2.2.1))
    have Fin := hid (Ext.drew_right (Ext.set (Ext.set (Ext.set hE'.out (p := ⟨w.heap.size + 1 + 1, 0, none⟩) (show w.heap.size ≤ w.heap.size + 1 + 1 by omega) (.int .i64 (wholeR divR k n k' n').1)) (p := ⟨w.heap.size + 1 + 1, 1, none⟩) (show w.heap.size ≤ w.heap.size + 1 + 1 by omega) (.int .i64 (wholeR divR k n k' n').2.1)) (p := ⟨w.heap.size + 1 + 1, 2, none⟩) (show w.heap.size ≤ w.heap.size + 1 + 1 by omega) (.string (wholeR divR k n k' n').2.2.1)))
    clear t' hE' p0 p1 p2 f0 f1 f2 r0 r1 r2 r3 hg
    go_wp2
    obtain ⟨k0, k1, k2⟩ := kk.out
    exact bodyPost_ret (v := .tuple #[.agg #[.int .i64 (wholeR divR k n k' n').1, .int .i64 (wholeR divR k n k' n').2.1, .string (wholeR divR k n k' n').2.2.1], .int .i64 (wholeR divR k n k' n').2.2.2, .int .i64 0]) (by simp [results, Tryd.results17, go_sem, k0, k1, k2]) rfl ⟨rfl, Fin.out⟩
set_option maxRecDepth 100000 in
set_option maxHeartbeats 4000000 in
theorem Domod_ok (k n : Int) (s : ByteArray) (k' n' : Int) (s' : ByteArray) (w : World) (h1 : Bd k n s) (h2 : Bd k' n' s') (hk : k ≠ 0) (hk' : k' ≠ 0) : Calls Tryd.prog 17 #[.int .i64 4, vV k n s, vV k' n' s'] w (GiveD (wholeR modR k n k' n') w) := by
  have hb := bd_both h1 h2
  have d1 : (k == 0) = false := by simpa using hk
  have d2 : (k' == 0) = false := by simpa using hk'
  clear hk hk'
  unfold vV
  go_enter Tryd.func17, Tryd.ntmps17
  go_wp2_with fail
  refine (both_any k n s k' n' s' _).mono ?_
  rintro e w1 ⟨rfl, hx1⟩
  have t := hid (There.ext (There.newb ((w.alloc (.cells #[.int .i64 k, .int .i64 n, .string s] 23)).alloc (.cells #[.int .i64 k', .int .i64 n', .string s'] 23)) #[.int .i64 0, .int .i64 0, .string { data := #[] }] 23 (n := 3) (b := w.heap.size + 1 + 1) (by simp) (by decide)) hx1)
  have c0_0_0 : w1.cell? ⟨w.heap.size, 0, none⟩ = some (.int .i64 k) := hx1.cell (by go_simp)
  have c0_0_1 : w1.cell? ⟨w.heap.size, 1, none⟩ = some (.int .i64 n) := hx1.cell (by go_simp)
  have c0_0_2 : w1.cell? ⟨w.heap.size, 2, none⟩ = some (.string s) := hx1.cell (by go_simp)
  have c0_1_0 : w1.cell? ⟨w.heap.size + 1, 0, none⟩ = some (.int .i64 k') := hx1.cell (by go_simp)
  have c0_1_1 : w1.cell? ⟨w.heap.size + 1, 1, none⟩ = some (.int .i64 n') := hx1.cell (by go_simp)
  have c0_1_2 : w1.cell? ⟨w.heap.size + 1, 2, none⟩ = some (.string s') := hx1.cell (by go_simp)
  have c0_2_0 : w1.cell? ⟨w.heap.size + 1 + 1, 0, none⟩ = some (.int .i64 0) := hx1.cell (by go_simp)
  have c0_2_1 : w1.cell? ⟨w.heap.size + 1 + 1, 1, none⟩ = some (.int .i64 0) := hx1.cell (by go_simp)
  have c0_2_2 : w1.cell? ⟨w.heap.size + 1 + 1, 2, none⟩ = some (.string { data := #[] }) := hx1.cell (by go_simp)
  have hE := hid (Ext.trans ((((Ext.refl w).alloc_right _).alloc_right _).alloc_right _) hx1)
  have lt_1 : w.heap.size < w1.heap.size := World.block_lt_of_cell? w1 _ c0_0_0
  have lt_2 : w.heap.size + 1 < w1.heap.size := World.block_lt_of_cell? w1 _ c0_1_0
  have lt_3 : w.heap.size + 1 + 1 < w1.heap.size := World.block_lt_of_cell? w1 _ c0_2_0
  clear hx1
  rw [hb]
  go_wp2_with fail
  refine (whole_any _ _).mono ?_
  rintro e w' ⟨rfl, rfl⟩
  go_wp2_with fail
  refine (whole_any _ _).mono ?_
  rintro e w' ⟨rfl, rfl⟩
  go_wp2_with fail
  refine (whole_any _ _).mono ?_
  rintro e w' ⟨rfl, rfl⟩
  go_wp2_with fail
  refine (whole_any _ _).mono ?_
  rintro e w' ⟨rfl, rfl⟩
  go_upto_region 5 with fail
  generalize hw2 : (((((w1.alloc (.cells #[.func (.func 63) #[] #[]] 67)).alloc (.cells #[.func (.func 64) #[] #[]] 67)).alloc (.cells #[.func (.func 65) #[] #[]] 67)).alloc (.cells #[.func (.func 66) #[] #[]] 67)).alloc (.cells #[.func (.func 60) #[] #[], .func (.func 61) #[] #[], .func (.func 107) #[] #[.pointer (some ⟨w1.heap.size, 0, none⟩)], .func (.func 107) #[] #[.pointer (some ⟨w1.heap.size + 1, 0, none⟩)], .func (.func 107) #[] #[.pointer (some ⟨w1.heap.size + 1 + 1, 0, none⟩)], .func (.func 107) #[] #[.pointer (some ⟨w1.heap.size + 1 + 1 + 1, 0, none⟩)]] 68)) = w2
  have hx2 : Ext (((((w1.alloc (.cells #[.func (.func 63) #[] #[]] 67)).alloc (.cells #[.func (.func 64) #[] #[]] 67)).alloc (.cells #[.func (.func 65) #[] #[]] 67)).alloc (.cells #[.func (.func 66) #[] #[]] 67)).alloc (.cells #[.func (.func 60) #[] #[], .func (.func 61) #[] #[], .func (.func 107) #[] #[.pointer (some ⟨w1.heap.size, 0, none⟩)], .func (.func 107) #[] #[.pointer (some ⟨w1.heap.size + 1, 0, none⟩)], .func (.func 107) #[] #[.pointer (some ⟨w1.heap.size + 1 + 1, 0, none⟩)], .func (.func 107) #[] #[.pointer (some ⟨w1.heap.size + 1 + 1 + 1, 0, none⟩)]] 68)) w2 := by rw [hw2]; exact Ext.refl _
  clear hw2
  replace t := hid (There.ext (There.ext (There.ext (There.ext (There.ext (There.ext t.out ((Ext.refl _).alloc_right _)) ((Ext.refl _).alloc_right _)) ((Ext.refl _).alloc_right _)) ((Ext.refl _).alloc_right _)) ((Ext.refl _).alloc_right _)) hx2)
  replace c0_0_0 := hx2.cell (cell_alloc (cell_alloc (cell_alloc (cell_alloc (cell_alloc c0_0_0 _) _) _) _) _)
  replace c0_0_1 := hx2.cell (cell_alloc (cell_alloc (cell_alloc (cell_alloc (cell_alloc c0_0_1 _) _) _) _) _)
  replace c0_0_2 := hx2.cell (cell_alloc (cell_alloc (cell_alloc (cell_alloc (cell_alloc c0_0_2 _) _) _) _) _)
  replace c0_1_0 := hx2.cell (cell_alloc (cell_alloc (cell_alloc (cell_alloc (cell_alloc c0_1_0 _) _) _) _) _)
  replace c0_1_1 := hx2.cell (cell_alloc (cell_alloc (cell_alloc (cell_alloc (cell_alloc c0_1_1 _) _) _) _) _)
  replace c0_1_2 := hx2.cell (cell_alloc (cell_alloc (cell_alloc (cell_alloc (cell_alloc c0_1_2 _) _) _) _) _)
  replace c0_2_0 := hx2.cell (cell_alloc (cell_alloc (cell_alloc (cell_alloc (cell_alloc c0_2_0 _) _) _) _) _)
  replace c0_2_1 := hx2.cell (cell_alloc (cell_alloc (cell_alloc (cell_alloc (cell_alloc c0_2_1 _) _) _) _) _)
  replace c0_2_2 := hx2.cell (cell_alloc (cell_alloc (cell_alloc (cell_alloc (cell_alloc c0_2_2 _) _) _) _) _)
  have c1_0_0 : w2.cell? ⟨w1.heap.size, 0, none⟩ = some (.func (.func 63) #[] #[]) := hx2.cell (by go_simp)
  have c1_1_0 : w2.cell? ⟨w1.heap.size + 1, 0, none⟩ = some (.func (.func 64) #[] #[]) := hx2.cell (by go_simp)
  have c1_2_0 : w2.cell? ⟨w1.heap.size + 1 + 1, 0, none⟩ = some (.func (.func 65) #[] #[]) := hx2.cell (by go_simp)
  have c1_3_0 : w2.cell? ⟨w1.heap.size + 1 + 1 + 1, 0, none⟩ = some (.func (.func 66) #[] #[]) := hx2.cell (by go_simp)
  have c1_4_0 : w2.cell? ⟨w1.heap.size + 1 + 1 + 1 + 1, 0, none⟩ = some (.func (.func 60) #[] #[]) := hx2.cell (by go_simp)
  have c1_4_1 : w2.cell? ⟨w1.heap.size + 1 + 1 + 1 + 1, 1, none⟩ = some (.func (.func 61) #[] #[]) := hx2.cell (by go_simp)
  have c1_4_2 : w2.cell? ⟨w1.heap.size + 1 + 1 + 1 + 1, 2, none⟩ = some (.func (.func 107) #[] #[.pointer (some ⟨w1.heap.size, 0, none⟩)]) := hx2.cell (by go_simp)
  have c1_4_3 : w2.cell? ⟨w1.heap.size + 1 + 1 + 1 + 1, 3, none⟩ = some (.func (.func 107) #[] #[.pointer (some ⟨w1.heap.size + 1, 0, none⟩)]) := hx2.cell (by go_simp)
  have c1_4_4 : w2.cell? ⟨w1.heap.size + 1 + 1 + 1 + 1, 4, none⟩ = some (.func (.func 107) #[] #[.pointer (some ⟨w1.heap.size + 1 + 1, 0, none⟩)]) := hx2.cell (by go_simp)
  have c1_4_5 : w2.cell? ⟨w1.heap.size + 1 + 1 + 1 + 1, 5, none⟩ = some (.func (.func 107) #[] #[.pointer (some ⟨w1.heap.size + 1 + 1 + 1, 0, none⟩)]) := hx2.cell (by go_simp)
  replace hE := hid (Ext.trans (((((hE.out.alloc_right _).alloc_right _).alloc_right _).alloc_right _).alloc_right _) hx2)
  clear lt_1
  have lt_1 : w.heap.size < w2.heap.size := World.block_lt_of_cell? w2 _ c0_0_0
  clear lt_2
  have lt_2 : w.heap.size + 1 < w2.heap.size := World.block_lt_of_cell? w2 _ c0_1_0
  clear lt_3
  have lt_3 : w.heap.size + 1 + 1 < w2.heap.size := World.block_lt_of_cell? w2 _ c0_2_0
  have lt_4 : w1.heap.size < w2.heap.size := World.block_lt_of_cell? w2 _ c1_0_0
  have lt_5 : w1.heap.size + 1 < w2.heap.size := World.block_lt_of_cell? w2 _ c1_1_0
  have lt_6 : w1.heap.size + 1 + 1 < w2.heap.size := World.block_lt_of_cell? w2 _ c1_2_0
  have lt_7 : w1.heap.size + 1 + 1 + 1 < w2.heap.size := World.block_lt_of_cell? w2 _ c1_3_0
  have lt_8 : w1.heap.size + 1 + 1 + 1 + 1 < w2.heap.size := World.block_lt_of_cell? w2 _ c1_4_0
  clear hx2
  clear c1_0_0 c1_1_0 c1_3_0 c1_4_0 c1_4_1 c1_4_2 c1_4_3 c1_4_5 c0_2_0 c0_2_1 c0_2_2
  go_upto_region 9 with fail
  go_cut [11] (fun a wx => ∃ g : Nat, a = .pointer (some ⟨g, 0, none⟩) ∧ (wx.cell? ⟨g, 0, none⟩ = some (.int .i64 (wholeR modR k n k' n').1) ∧ wx.cell? ⟨g, 1, none⟩ = some (.int .i64 (wholeR modR k n k' n').2.1) ∧ wx.cell? ⟨g, 2, none⟩ = some (.string (wholeR modR k n k' n').2.2.1) ∧ wx.cell? ⟨g, 3, none⟩ = some (.int .i64 (wholeR modR k n k' n').2.2.2)) ∧ g ≠ w.heap.size + 1 + 1 ∧ Hid (There wx (w.heap.size + 1 + 1) 3) ∧ Hid (Ext w wx))
  case first =>
    have HS : Hid (∀ w', Ext w2 w' → (w'.cell? ⟨w.heap.size, 0, none⟩ = some (.int .i64 k) ∧ w'.cell? ⟨w.heap.size, 1, none⟩ = some (.int .i64 n) ∧ w'.cell? ⟨w.heap.size, 2, none⟩ = some (.string s) ∧ w'.cell? ⟨w.heap.size + 1, 0, none⟩ = some (.int .i64 k') ∧ w'.cell? ⟨w.heap.size + 1, 1, none⟩ = some (.int .i64 n') ∧ w'.cell? ⟨w.heap.size + 1, 2, none⟩ = some (.string s') ∧ w'.cell? ⟨w1.heap.size + 1 + 1, 0, none⟩ = some (.func (.func 65) #[] #[]) ∧ w'.cell? ⟨w1.heap.size + 1 + 1 + 1 + 1, 4, none⟩ = some (.func (.func 107) #[] #[.pointer (some ⟨w1.heap.size + 1 + 1, 0, none⟩)]) ∧ Ext w2 w')) := fun w' hx => ⟨hx.cell c0_0_0, hx.cell c0_0_1, hx.cell c0_0_2, hx.cell c0_1_0, hx.cell c0_1_1, hx.cell c0_1_2, hx.cell c1_2_0, hx.cell c1_4_4, hx⟩
    have I := hid (HS.out w2.drew (Ext.refl w2).drew_right)
    clear c0_0_0 c0_0_1 c0_0_2 c0_1_0 c0_1_1 c0_1_2 c1_2_0 c1_4_4
    have z2 := hid (Nat.le_refl w2.heap.size)
    go_region_held3 (fun w' => w'.cell? ⟨w.heap.size, 0, none⟩ = some (.int .i64 k) ∧ w'.cell? ⟨w.heap.size, 1, none⟩ = some (.int .i64 n) ∧ w'.cell? ⟨w.heap.size, 2, none⟩ = some (.string s) ∧ w'.cell? ⟨w.heap.size + 1, 0, none⟩ = some (.int .i64 k') ∧ w'.cell? ⟨w.heap.size + 1, 1, none⟩ = some (.int .i64 n') ∧ w'.cell? ⟨w.heap.size + 1, 2, none⟩ = some (.string s') ∧ w'.cell? ⟨w1.heap.size + 1 + 1, 0, none⟩ = some (.func (.func 65) #[] #[]) ∧ w'.cell? ⟨w1.heap.size + 1 + 1 + 1 + 1, 4, none⟩ = some (.func (.func 107) #[] #[.pointer (some ⟨w1.heap.size + 1 + 1, 0, none⟩)]) ∧ Ext w2 w')
      ((first | exact I.out | (go_split_ands; exact HS.out _ (Ext.alloc_right (by assumption) _)) | (go_split_ands; exact HS.out _ (Ext.trans (by assumption) hx3)) | (go_split_ands; exact HS.out _ (Ext.alloc_right (Ext.trans ((Ext.refl w2).drew_right) hx3) _)) | (go_split_ands; exact HS.out _ (Ext.set (Ext.set (Ext.set (Ext.set (by assumption) (by exact Nat.le_refl _) _) (by exact Nat.le_refl _) _) (by exact Nat.le_refl _) _) (by exact Nat.le_refl _) _))))
      ((first | (go_at_call 107; go_split_ands; refine (whole1_any 65 modR enter_mod (fun x y w hx hy => mod_any x y w hx hy) k n s k' n' s' (w1.heap.size + 1 + 1) _ (by assumption) h1 h2).mono ?_; rintro e w3 ⟨rfl, hx3⟩; unfold rV; (first | (have T3 := There.ext (There.newb w2.drew #[.int .i64 0, .int .i64 0, .string { data := #[] }, .int .i64 0] 70 (n := 4) (b := w2.heap.size) (by simp) (by decide)) hx3; have pg0 := T3.cell (o := 0) (by omega); have pg1 := T3.cell (o := 1) (by omega); have pg2 := T3.cell (o := 2) (by omega); have pg3 := T3.cell (o := 3) (by omega); have fg0 := T3.free (o := 0) (by omega); have fg1 := T3.free (o := 1) (by omega); have fg2 := T3.free (o := 2) (by omega); have fg3 := T3.free (o := 3) (by omega); have T3 := hid T3) | skip))))
    · go_wp2_with fail
      go_meet
      have hy : Ext w2 (w3.alloc (.cells #[.int .i64 (wholeR modR k n k' n').1, .int .i64 (wholeR modR k n k' n').2.1, .string (wholeR modR k n k' n').2.2.1, .int .i64 (wholeR modR k n k' n').2.2.2] 70)) := Ext.alloc_right (Ext.trans ((Ext.refl w2).drew_right) hx3) _
      have hsz : w2.heap.size ≤ w3.heap.size := hx3.size
      exact ⟨_, rfl, ⟨by go_simp, by go_simp, by go_simp, by go_simp⟩, by omega, There.ext t.out hy, Ext.trans hE.out hy⟩
    · go_wp2_with fail
      go_meet
      have hy0 : Ext w2 w3 := Ext.trans (((Ext.refl w2).drew_right).alloc_right _) hx3
      have hy := Ext.set (Ext.set (Ext.set (Ext.set hy0 (p := ⟨w2.heap.size, 0, none⟩) (Nat.le_refl _) (.int .i64 (wholeR modR k n k' n').1)) (p := ⟨w2.heap.size, 1, none⟩) (Nat.le_refl _) (.int .i64 (wholeR modR k n k' n').2.1)) (p := ⟨w2.heap.size, 2, none⟩) (Nat.le_refl _) (.string (wholeR modR k n k' n').2.2.1)) (p := ⟨w2.heap.size, 3, none⟩) (Nat.le_refl _) (.int .i64 (wholeR modR k n k' n').2.2.2)
      exact ⟨_, rfl, put4 T3.out _ _ _ _, by omega, There.ext t.out hy, Ext.trans hE.out hy⟩
  case rest =>
    obtain ⟨g, rfl, ⟨r0, r1, r2, r3⟩, hg, t', hE'⟩ := hcut
    clear hE t lt_1 lt_2 lt_3 lt_4 lt_5 lt_6 lt_7 lt_8 c0_0_0 c0_0_1 c0_0_2 c0_1_0 c0_1_1 c0_1_2 c1_2_0 c1_4_4
    have p0 := t'.out.cell (o := 0) (by omega)
    have f0 := t'.out.free (o := 0) (by omega)
    have p1 := t'.out.cell (o := 1) (by omega)
    have f1 := t'.out.free (o := 1) (by omega)
    have p2 := t'.out.cell (o := 2) (by omega)
    have f2 := t'.out.free (o := 2) (by omega)
    go_wp2_with fail
    go_region
    have kk := hid (put3 t'.out (.int .i64 (wholeR modR k n k' n').1) (.int .i64 (wholeR modR k n k' n').2.1) (.string (wholeR modR k n k' n').2.2.1))
    have Fin := hid (Ext.drew_right (Ext.set (Ext.set (Ext.set hE'.out (p := ⟨w.heap.size + 1 + 1, 0, none⟩) (show w.heap.size ≤ w.heap.size + 1 + 1 by omega) (.int .i64 (wholeR modR k n k' n').1)) (p := ⟨w.heap.size + 1 + 1, 1, none⟩) (show w.heap.size ≤ w.heap.size + 1 + 1 by omega) (.int .i64 (wholeR modR k n k' n').2.1)) (p := ⟨w.heap.size + 1 + 1, 2, none⟩) (show w.heap.size ≤ w.heap.size + 1 + 1 by omega) (.string (wholeR modR k n k' n').2.2.1)))
    clear t' hE' p0 p1 p2 f0 f1 f2 r0 r1 r2 r3 hg
    go_wp2
    obtain ⟨k0, k1, k2⟩ := kk.out
    exact bodyPost_ret (v := .tuple #[.agg #[.int .i64 (wholeR modR k n k' n').1, .int .i64 (wholeR modR k n k' n').2.1, .string (wholeR modR k n k' n').2.2.1], .int .i64 (wholeR modR k n k' n').2.2.2, .int .i64 0]) (by simp [results, Tryd.results17, go_sem, k0, k1, k2]) rfl ⟨rfl, Fin.out⟩
set_option maxRecDepth 100000 in
set_option maxHeartbeats 2000000 in
def GiveX (e0 : Int) (w : World) (e : Ending) (w' : World) : Prop := e = .returned (.tuple #[.agg #[.int .i64 0, .int .i64 0, .string ByteArray.empty], .int .i64 0, .int .i64 e0]) ∧ Ext w w'
set_option maxRecDepth 100000 in
set_option maxHeartbeats 2000000 in
theorem Do_err (op k n : Int) (s : ByteArray) (k' n' : Int) (s' : ByteArray) (w : World) (h : bothE k n s k' n' s' ≠ 0) : Calls Tryd.prog 17 #[.int .i64 op, vV k n s, vV k' n' s'] w (GiveX (bothE k n s k' n' s') w) := by
  have e1 : (bothE k n s k' n' s' != 0) = true := by simpa using h
  unfold vV
  go_enter Tryd.func17, Tryd.ntmps17
  go_wp2_with fail
  refine (both_any k n s k' n' s' _).mono ?_
  rintro e w1 ⟨rfl, hx1⟩
  have t := hid (There.ext (There.newb ((w.alloc (.cells #[.int .i64 k, .int .i64 n, .string s] 23)).alloc (.cells #[.int .i64 k', .int .i64 n', .string s'] 23)) #[.int .i64 0, .int .i64 0, .string { data := #[] }] 23 (n := 3) (b := w.heap.size + 1 + 1) (by simp) (by decide)) hx1)
  have c0_0_0 : w1.cell? ⟨w.heap.size, 0, none⟩ = some (.int .i64 k) := hx1.cell (by go_simp)
  have c0_0_1 : w1.cell? ⟨w.heap.size, 1, none⟩ = some (.int .i64 n) := hx1.cell (by go_simp)
  have c0_0_2 : w1.cell? ⟨w.heap.size, 2, none⟩ = some (.string s) := hx1.cell (by go_simp)
  have c0_1_0 : w1.cell? ⟨w.heap.size + 1, 0, none⟩ = some (.int .i64 k') := hx1.cell (by go_simp)
  have c0_1_1 : w1.cell? ⟨w.heap.size + 1, 1, none⟩ = some (.int .i64 n') := hx1.cell (by go_simp)
  have c0_1_2 : w1.cell? ⟨w.heap.size + 1, 2, none⟩ = some (.string s') := hx1.cell (by go_simp)
  have c0_2_0 : w1.cell? ⟨w.heap.size + 1 + 1, 0, none⟩ = some (.int .i64 0) := hx1.cell (by go_simp)
  have c0_2_1 : w1.cell? ⟨w.heap.size + 1 + 1, 1, none⟩ = some (.int .i64 0) := hx1.cell (by go_simp)
  have c0_2_2 : w1.cell? ⟨w.heap.size + 1 + 1, 2, none⟩ = some (.string { data := #[] }) := hx1.cell (by go_simp)
  have hE := hid (Ext.trans ((((Ext.refl w).alloc_right _).alloc_right _).alloc_right _) hx1)
  have lt_1 : w.heap.size < w1.heap.size := World.block_lt_of_cell? w1 _ c0_0_0
  have lt_2 : w.heap.size + 1 < w1.heap.size := World.block_lt_of_cell? w1 _ c0_1_0
  have lt_3 : w.heap.size + 1 + 1 < w1.heap.size := World.block_lt_of_cell? w1 _ c0_2_0
  clear hx1
  have p0 := t.out.cell (o := 0) (by omega)
  have f0 := t.out.free (o := 0) (by omega)
  have p1 := t.out.cell (o := 1) (by omega)
  have f1 := t.out.free (o := 1) (by omega)
  have p2 := t.out.cell (o := 2) (by omega)
  have f2 := t.out.free (o := 2) (by omega)
  have kk := hid (put3 t.out (.int .i64 0) (.int .i64 0) (.string { data := #[] }))
  have Fin := hid (((hE.out.set (p := ⟨w.heap.size + 1 + 1, 0, none⟩) (show w.heap.size ≤ w.heap.size + 1 + 1 by omega) (.int .i64 0)).set (p := ⟨w.heap.size + 1 + 1, 1, none⟩) (show w.heap.size ≤ w.heap.size + 1 + 1 by omega) (.int .i64 0)).set (p := ⟨w.heap.size + 1 + 1, 2, none⟩) (show w.heap.size ≤ w.heap.size + 1 + 1 by omega) (.string { data := #[] }))
  clear t
  clear c0_2_0 c0_2_1 c0_2_2
  go_wp2
  obtain ⟨k0, k1, k2⟩ := kk.out
  exact bodyPost_ret (v := .tuple #[.agg #[.int .i64 0, .int .i64 0, .string { data := #[] }], .int .i64 0, .int .i64 (bothE k n s k' n' s')]) (by simp [results, Tryd.results17, go_sem, k0, k1, k2]) rfl ⟨rfl, Fin.out⟩
end Go.Proofs.YtkjcfnmbnddhjaaDoor
