/-
  The reference's operations of numbers.
-/
import Derived.Test.YtkjcfnmbnddhjaaDoorVc6
namespace Go.Proofs.YtkjcfnmbnddhjaaDoor
open Go.RowKit
set_option linter.unusedVariables false
set_option linter.unusedSimpArgs false
set_option maxRecDepth 100000 in
set_option maxHeartbeats 2000000 in
theorem numbers_0 (a b : Int) (w : World) (ha : -1000000000000000 ≤ a ∧ a ≤ 1000000000000000) (hb : -1000000000000000 ≤ b ∧ b ≤ 1000000000000000) : Calls Tryd.prog 109 #[.int .i64 0, .int .i64 a, .int .i64 b] w (GiveP (numR (a + b)) w) := by
  have ew : IntKind.i64.wrap (a + b) = a + b := IntWalk.i64_in _ (by omega)
  go_enter Tryd.func109, Tryd.ntmps109
  go_wp2_with fail
  refine (limited_any (a + b) true _).mono ?_
  rintro e w1 ⟨rfl, hx1⟩
  have t := hid (There.ext (There.newb w #[.int .i64 0, .int .i64 0, .string { data := #[] }] 23 (n := 3) (b := w.heap.size) (by simp) (by decide)) hx1)
  have c0_0_0 : w1.cell? ⟨w.heap.size, 0, none⟩ = some (.int .i64 0) := hx1.cell (by go_simp)
  have c0_0_1 : w1.cell? ⟨w.heap.size, 1, none⟩ = some (.int .i64 0) := hx1.cell (by go_simp)
  have c0_0_2 : w1.cell? ⟨w.heap.size, 2, none⟩ = some (.string { data := #[] }) := hx1.cell (by go_simp)
  have hE := hid (Ext.trans ((Ext.refl w).alloc_right _) hx1)
  have lt_1 : w.heap.size < w1.heap.size := World.block_lt_of_cell? w1 _ c0_0_0
  clear hx1
  have p0 := t.out.cell (o := 0) (by omega)
  have f0 := t.out.free (o := 0) (by omega)
  have p1 := t.out.cell (o := 1) (by omega)
  have f1 := t.out.free (o := 1) (by omega)
  have p2 := t.out.cell (o := 2) (by omega)
  have f2 := t.out.free (o := 2) (by omega)
  have kk := hid (put3 t.out (.int .i64 (limR (a + b) true).1) (.int .i64 (limR (a + b) true).2.1) (.string (limR (a + b) true).2.2.1))
  have Fin := hid (((hE.out.set (p := ⟨w.heap.size, 0, none⟩) (show w.heap.size ≤ w.heap.size by omega) (.int .i64 (limR (a + b) true).1)).set (p := ⟨w.heap.size, 1, none⟩) (show w.heap.size ≤ w.heap.size by omega) (.int .i64 (limR (a + b) true).2.1)).set (p := ⟨w.heap.size, 2, none⟩) (show w.heap.size ≤ w.heap.size by omega) (.string (limR (a + b) true).2.2.1))
  clear t
  clear c0_0_0 c0_0_1 c0_0_2
  go_wp2
  obtain ⟨k0, k1, k2⟩ := kk.out
  exact bodyPost_ret (v := .tuple #[.agg #[.int .i64 (limR (a + b) true).1, .int .i64 (limR (a + b) true).2.1, .string (limR (a + b) true).2.2.1], .int .i64 (limR (a + b) true).2.2.2]) (by simp [results, Tryd.results109, go_sem, k0, k1, k2]) rfl ⟨rfl, Fin.out⟩
set_option maxRecDepth 100000 in
set_option maxHeartbeats 2000000 in
theorem numbers_1 (a b : Int) (w : World) (ha : -1000000000000000 ≤ a ∧ a ≤ 1000000000000000) (hb : -1000000000000000 ≤ b ∧ b ≤ 1000000000000000) : Calls Tryd.prog 109 #[.int .i64 1, .int .i64 a, .int .i64 b] w (GiveP (numR (a - b)) w) := by
  have ew : IntKind.i64.wrap (a - b) = a - b := IntWalk.i64_in _ (by omega)
  go_enter Tryd.func109, Tryd.ntmps109
  go_wp2_with fail
  refine (limited_any (a - b) true _).mono ?_
  rintro e w1 ⟨rfl, hx1⟩
  have t := hid (There.ext (There.newb w #[.int .i64 0, .int .i64 0, .string { data := #[] }] 23 (n := 3) (b := w.heap.size) (by simp) (by decide)) hx1)
  have c0_0_0 : w1.cell? ⟨w.heap.size, 0, none⟩ = some (.int .i64 0) := hx1.cell (by go_simp)
  have c0_0_1 : w1.cell? ⟨w.heap.size, 1, none⟩ = some (.int .i64 0) := hx1.cell (by go_simp)
  have c0_0_2 : w1.cell? ⟨w.heap.size, 2, none⟩ = some (.string { data := #[] }) := hx1.cell (by go_simp)
  have hE := hid (Ext.trans ((Ext.refl w).alloc_right _) hx1)
  have lt_1 : w.heap.size < w1.heap.size := World.block_lt_of_cell? w1 _ c0_0_0
  clear hx1
  have p0 := t.out.cell (o := 0) (by omega)
  have f0 := t.out.free (o := 0) (by omega)
  have p1 := t.out.cell (o := 1) (by omega)
  have f1 := t.out.free (o := 1) (by omega)
  have p2 := t.out.cell (o := 2) (by omega)
  have f2 := t.out.free (o := 2) (by omega)
  have kk := hid (put3 t.out (.int .i64 (limR (a - b) true).1) (.int .i64 (limR (a - b) true).2.1) (.string (limR (a - b) true).2.2.1))
  have Fin := hid (((hE.out.set (p := ⟨w.heap.size, 0, none⟩) (show w.heap.size ≤ w.heap.size by omega) (.int .i64 (limR (a - b) true).1)).set (p := ⟨w.heap.size, 1, none⟩) (show w.heap.size ≤ w.heap.size by omega) (.int .i64 (limR (a - b) true).2.1)).set (p := ⟨w.heap.size, 2, none⟩) (show w.heap.size ≤ w.heap.size by omega) (.string (limR (a - b) true).2.2.1))
  clear t
  clear c0_0_0 c0_0_1 c0_0_2
  go_wp2
  obtain ⟨k0, k1, k2⟩ := kk.out
  exact bodyPost_ret (v := .tuple #[.agg #[.int .i64 (limR (a - b) true).1, .int .i64 (limR (a - b) true).2.1, .string (limR (a - b) true).2.2.1], .int .i64 (limR (a - b) true).2.2.2]) (by simp [results, Tryd.results109, go_sem, k0, k1, k2]) rfl ⟨rfl, Fin.out⟩
set_option maxRecDepth 100000 in
set_option maxHeartbeats 2000000 in
theorem numbers_2 (a b : Int) (w : World) (ha : -1000000000000000 ≤ a ∧ a ≤ 1000000000000000) (hb : -1000000000000000 ≤ b ∧ b ≤ 1000000000000000) : Calls Tryd.prog 109 #[.int .i64 2, .int .i64 a, .int .i64 b] w (GiveP (mulR a b) w) := by
  rw [mul_pr]
  go_enter Tryd.func109, Tryd.ntmps109
  go_wp2_with fail
  refine (product_any _ _ _ ha hb).mono ?_
  rintro e w' ⟨rfl, rfl⟩
  go_wp2_with fail
  refine (limited_any (prO a b) (prB a b) _).mono ?_
  rintro e w1 ⟨rfl, hx1⟩
  have t := hid (There.ext (There.newb w #[.int .i64 0, .int .i64 0, .string { data := #[] }] 23 (n := 3) (b := w.heap.size) (by simp) (by decide)) hx1)
  have c0_0_0 : w1.cell? ⟨w.heap.size, 0, none⟩ = some (.int .i64 0) := hx1.cell (by go_simp)
  have c0_0_1 : w1.cell? ⟨w.heap.size, 1, none⟩ = some (.int .i64 0) := hx1.cell (by go_simp)
  have c0_0_2 : w1.cell? ⟨w.heap.size, 2, none⟩ = some (.string { data := #[] }) := hx1.cell (by go_simp)
  have hE := hid (Ext.trans ((Ext.refl w).alloc_right _) hx1)
  have lt_1 : w.heap.size < w1.heap.size := World.block_lt_of_cell? w1 _ c0_0_0
  clear hx1
  have p0 := t.out.cell (o := 0) (by omega)
  have f0 := t.out.free (o := 0) (by omega)
  have p1 := t.out.cell (o := 1) (by omega)
  have f1 := t.out.free (o := 1) (by omega)
  have p2 := t.out.cell (o := 2) (by omega)
  have f2 := t.out.free (o := 2) (by omega)
  have kk := hid (put3 t.out (.int .i64 (limR (prO a b) (prB a b)).1) (.int .i64 (limR (prO a b) (prB a b)).2.1) (.string (limR (prO a b) (prB a b)).2.2.1))
  have Fin := hid (((hE.out.set (p := ⟨w.heap.size, 0, none⟩) (show w.heap.size ≤ w.heap.size by omega) (.int .i64 (limR (prO a b) (prB a b)).1)).set (p := ⟨w.heap.size, 1, none⟩) (show w.heap.size ≤ w.heap.size by omega) (.int .i64 (limR (prO a b) (prB a b)).2.1)).set (p := ⟨w.heap.size, 2, none⟩) (show w.heap.size ≤ w.heap.size by omega) (.string (limR (prO a b) (prB a b)).2.2.1))
  clear t
  clear c0_0_0 c0_0_1 c0_0_2
  go_wp2
  obtain ⟨k0, k1, k2⟩ := kk.out
  exact bodyPost_ret (v := .tuple #[.agg #[.int .i64 (limR (prO a b) (prB a b)).1, .int .i64 (limR (prO a b) (prB a b)).2.1, .string (limR (prO a b) (prB a b)).2.2.1], .int .i64 (limR (prO a b) (prB a b)).2.2.2]) (by simp [results, Tryd.results109, go_sem, k0, k1, k2]) rfl ⟨rfl, Fin.out⟩
set_option maxRecDepth 100000 in
set_option maxHeartbeats 2000000 in
theorem numbers_5 (a b : Int) (w : World) (ha : -1000000000000000 ≤ a ∧ a ≤ 1000000000000000) (hb : -1000000000000000 ≤ b ∧ b ≤ 1000000000000000) : Calls Tryd.prog 109 #[.int .i64 5, .int .i64 a, .int .i64 b] w (GiveP (powR a b) w) := by
  go_enter Tryd.func109, Tryd.ntmps109
  go_wp2_with fail
  refine (power_any _ _ _ ha hb).mono ?_
  rintro e w' ⟨rfl, rfl⟩
  go_wp2_with fail
  refine (limited_any (powO a b) (powB a b) _).mono ?_
  rintro e w1 ⟨rfl, hx1⟩
  have t := hid (There.ext (There.newb w #[.int .i64 0, .int .i64 0, .string { data := #[] }] 23 (n := 3) (b := w.heap.size) (by simp) (by decide)) hx1)
  have c0_0_0 : w1.cell? ⟨w.heap.size, 0, none⟩ = some (.int .i64 0) := hx1.cell (by go_simp)
  have c0_0_1 : w1.cell? ⟨w.heap.size, 1, none⟩ = some (.int .i64 0) := hx1.cell (by go_simp)
  have c0_0_2 : w1.cell? ⟨w.heap.size, 2, none⟩ = some (.string { data := #[] }) := hx1.cell (by go_simp)
  have hE := hid (Ext.trans ((Ext.refl w).alloc_right _) hx1)
  have lt_1 : w.heap.size < w1.heap.size := World.block_lt_of_cell? w1 _ c0_0_0
  clear hx1
  have p0 := t.out.cell (o := 0) (by omega)
  have f0 := t.out.free (o := 0) (by omega)
  have p1 := t.out.cell (o := 1) (by omega)
  have f1 := t.out.free (o := 1) (by omega)
  have p2 := t.out.cell (o := 2) (by omega)
  have f2 := t.out.free (o := 2) (by omega)
  have kk := hid (put3 t.out (.int .i64 (limR (powO a b) (powB a b)).1) (.int .i64 (limR (powO a b) (powB a b)).2.1) (.string (limR (powO a b) (powB a b)).2.2.1))
  have Fin := hid (((hE.out.set (p := ⟨w.heap.size, 0, none⟩) (show w.heap.size ≤ w.heap.size by omega) (.int .i64 (limR (powO a b) (powB a b)).1)).set (p := ⟨w.heap.size, 1, none⟩) (show w.heap.size ≤ w.heap.size by omega) (.int .i64 (limR (powO a b) (powB a b)).2.1)).set (p := ⟨w.heap.size, 2, none⟩) (show w.heap.size ≤ w.heap.size by omega) (.string (limR (powO a b) (powB a b)).2.2.1))
  clear t
  clear c0_0_0 c0_0_1 c0_0_2
  go_wp2
  obtain ⟨k0, k1, k2⟩ := kk.out
  exact bodyPost_ret (v := .tuple #[.agg #[.int .i64 (limR (powO a b) (powB a b)).1, .int .i64 (limR (powO a b) (powB a b)).2.1, .string (limR (powO a b) (powB a b)).2.2.1], .int .i64 (limR (powO a b) (powB a b)).2.2.2]) (by simp [results, Tryd.results109, go_sem, k0, k1, k2]) rfl ⟨rfl, Fin.out⟩
set_option maxRecDepth 100000 in
set_option maxHeartbeats 2000000 in
theorem numbers_3 (a b : Int) (w : World) (ha : -1000000000000000 ≤ a ∧ a ≤ 1000000000000000) (hb : -1000000000000000 ≤ b ∧ b ≤ 1000000000000000) : Calls Tryd.prog 109 #[.int .i64 3, .int .i64 a, .int .i64 b] w (GiveP (divR a b) w) := by
  by_cases b0 : b = 0
  · subst b0
    rw [show divR a 0 = diedR 2 by unfold divR; rw [if_pos rfl]]
    go_enter Tryd.func109, Tryd.ntmps109
    go_wp2
    exact bodyPost_ret (v := .tuple #[.agg #[.int .i64 0, .int .i64 0, .string ByteArray.empty], .int .i64 2]) (by simp [results, Tryd.results109, go_sem]; try rfl) rfl ⟨rfl, (Ext.refl w).alloc_right _⟩
  · have db : (b == 0) = false := by simpa using b0
    rw [show divR a b = numR (a.tdiv b) by unfold divR; rw [if_neg b0]]
    have hq := div_in (a := a) (b := b) ha b0
    have ew : IntKind.i64.wrap (a.tdiv b) = a.tdiv b := IntWalk.i64_in _ (by omega)
    go_enter Tryd.func109, Tryd.ntmps109
    go_wp2_with fail
    refine (limited_any (a.tdiv b) true _).mono ?_
    rintro e w1 ⟨rfl, hx1⟩
    have t := hid (There.ext (There.newb w #[.int .i64 0, .int .i64 0, .string { data := #[] }] 23 (n := 3) (b := w.heap.size) (by simp) (by decide)) hx1)
    have c0_0_0 : w1.cell? ⟨w.heap.size, 0, none⟩ = some (.int .i64 0) := hx1.cell (by go_simp)
    have c0_0_1 : w1.cell? ⟨w.heap.size, 1, none⟩ = some (.int .i64 0) := hx1.cell (by go_simp)
    have c0_0_2 : w1.cell? ⟨w.heap.size, 2, none⟩ = some (.string { data := #[] }) := hx1.cell (by go_simp)
    have hE := hid (Ext.trans ((Ext.refl w).alloc_right _) hx1)
    have lt_1 : w.heap.size < w1.heap.size := World.block_lt_of_cell? w1 _ c0_0_0
    clear hx1
    have p0 := t.out.cell (o := 0) (by omega)
    have f0 := t.out.free (o := 0) (by omega)
    have p1 := t.out.cell (o := 1) (by omega)
    have f1 := t.out.free (o := 1) (by omega)
    have p2 := t.out.cell (o := 2) (by omega)
    have f2 := t.out.free (o := 2) (by omega)
    have kk := hid (put3 t.out (.int .i64 (limR (a.tdiv b) true).1) (.int .i64 (limR (a.tdiv b) true).2.1) (.string (limR (a.tdiv b) true).2.2.1))
    have Fin := hid (((hE.out.set (p := ⟨w.heap.size, 0, none⟩) (show w.heap.size ≤ w.heap.size by omega) (.int .i64 (limR (a.tdiv b) true).1)).set (p := ⟨w.heap.size, 1, none⟩) (show w.heap.size ≤ w.heap.size by omega) (.int .i64 (limR (a.tdiv b) true).2.1)).set (p := ⟨w.heap.size, 2, none⟩) (show w.heap.size ≤ w.heap.size by omega) (.string (limR (a.tdiv b) true).2.2.1))
    clear t
    clear c0_0_0 c0_0_1 c0_0_2
    go_wp2
    obtain ⟨k0, k1, k2⟩ := kk.out
    exact bodyPost_ret (v := .tuple #[.agg #[.int .i64 (limR (a.tdiv b) true).1, .int .i64 (limR (a.tdiv b) true).2.1, .string (limR (a.tdiv b) true).2.2.1], .int .i64 (limR (a.tdiv b) true).2.2.2]) (by simp [results, Tryd.results109, go_sem, k0, k1, k2]) rfl ⟨rfl, Fin.out⟩
set_option maxRecDepth 100000 in
set_option maxHeartbeats 2000000 in
theorem numbers_4 (a b : Int) (w : World) (ha : -1000000000000000 ≤ a ∧ a ≤ 1000000000000000) (hb : -1000000000000000 ≤ b ∧ b ≤ 1000000000000000) : Calls Tryd.prog 109 #[.int .i64 4, .int .i64 a, .int .i64 b] w (GiveP (modR a b) w) := by
  by_cases b0 : b = 0
  · subst b0
    rw [show modR a 0 = diedR 2 by unfold modR; rw [if_pos rfl]]
    go_enter Tryd.func109, Tryd.ntmps109
    go_wp2
    exact bodyPost_ret (v := .tuple #[.agg #[.int .i64 0, .int .i64 0, .string ByteArray.empty], .int .i64 2]) (by simp [results, Tryd.results109, go_sem]; try rfl) rfl ⟨rfl, (Ext.refl w).alloc_right _⟩
  · have db : (b == 0) = false := by simpa using b0
    rw [show modR a b = numR (a.tmod b) by unfold modR; rw [if_neg b0]]
    have hq := mod_in (a := a) (b := b) ha b0
    have ew : IntKind.i64.wrap (a.tmod b) = a.tmod b := IntWalk.i64_in _ (by omega)
    go_enter Tryd.func109, Tryd.ntmps109
    go_wp2_with fail
    refine (limited_any (a.tmod b) true _).mono ?_
    rintro e w1 ⟨rfl, hx1⟩
    have t := hid (There.ext (There.newb w #[.int .i64 0, .int .i64 0, .string { data := #[] }] 23 (n := 3) (b := w.heap.size) (by simp) (by decide)) hx1)
    have c0_0_0 : w1.cell? ⟨w.heap.size, 0, none⟩ = some (.int .i64 0) := hx1.cell (by go_simp)
    have c0_0_1 : w1.cell? ⟨w.heap.size, 1, none⟩ = some (.int .i64 0) := hx1.cell (by go_simp)
    have c0_0_2 : w1.cell? ⟨w.heap.size, 2, none⟩ = some (.string { data := #[] }) := hx1.cell (by go_simp)
    have hE := hid (Ext.trans ((Ext.refl w).alloc_right _) hx1)
    have lt_1 : w.heap.size < w1.heap.size := World.block_lt_of_cell? w1 _ c0_0_0
    clear hx1
    have p0 := t.out.cell (o := 0) (by omega)
    have f0 := t.out.free (o := 0) (by omega)
    have p1 := t.out.cell (o := 1) (by omega)
    have f1 := t.out.free (o := 1) (by omega)
    have p2 := t.out.cell (o := 2) (by omega)
    have f2 := t.out.free (o := 2) (by omega)
    have kk := hid (put3 t.out (.int .i64 (limR (a.tmod b) true).1) (.int .i64 (limR (a.tmod b) true).2.1) (.string (limR (a.tmod b) true).2.2.1))
    have Fin := hid (((hE.out.set (p := ⟨w.heap.size, 0, none⟩) (show w.heap.size ≤ w.heap.size by omega) (.int .i64 (limR (a.tmod b) true).1)).set (p := ⟨w.heap.size, 1, none⟩) (show w.heap.size ≤ w.heap.size by omega) (.int .i64 (limR (a.tmod b) true).2.1)).set (p := ⟨w.heap.size, 2, none⟩) (show w.heap.size ≤ w.heap.size by omega) (.string (limR (a.tmod b) true).2.2.1))
    clear t
    clear c0_0_0 c0_0_1 c0_0_2
    go_wp2
    obtain ⟨k0, k1, k2⟩ := kk.out
    exact bodyPost_ret (v := .tuple #[.agg #[.int .i64 (limR (a.tmod b) true).1, .int .i64 (limR (a.tmod b) true).2.1, .string (limR (a.tmod b) true).2.2.1], .int .i64 (limR (a.tmod b) true).2.2.2]) (by simp [results, Tryd.results109, go_sem, k0, k1, k2]) rfl ⟨rfl, Fin.out⟩
set_option maxRecDepth 100000 in
set_option maxHeartbeats 2000000 in
theorem same_refl (k n : Int) (s : ByteArray) (w : World) : Calls Tryd.prog 19 #[vV k n s, vV k n s] w (Give (.bool true) w) := by
  have h1 : (k == k) = true := by simp
  have h2 : (n == n) = true := by simp
  unfold vV
  go_enter Tryd.func19, Tryd.ntmps19
  go_wp2
  go_ret
  exact ⟨rfl, ((Ext.refl w).alloc_right _).alloc_right _⟩
end Go.Proofs.YtkjcfnmbnddhjaaDoor
