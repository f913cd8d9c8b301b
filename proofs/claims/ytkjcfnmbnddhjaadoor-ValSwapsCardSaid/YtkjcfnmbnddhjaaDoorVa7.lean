/-
  Sums and differences of values; operations of numbers as ones of values.
-/
import Derived.Test.YtkjcfnmbnddhjaaDoorVa6
import Derived.StillTailTactics
namespace Go.Proofs.YtkjcfnmbnddhjaaDoor
open Go.RowKit
set_option linter.unusedVariables false
set_option linter.unusedSimpArgs false
attribute [local go_sem] pair_eq pair_guard
def addR (k n : Int) (s : ByteArray) (k' n' : Int) (s' : ByteArray) : Res :=
  if k = 2 ∧ k' = 2 then numR (n + n') else if k = 3 ∧ k' = 2 then dayR n n' else if k = 2 ∧ k' = 3 then dayR n' n else if k = 4 ∧ k' = 4 then textR (s ++ s') else diedR 1
def subT (s s' : ByteArray) : ByteArray := trimR s 32 ++ s' ++ s.extract (trimR s 32).size s.size
def subR (k n : Int) (s : ByteArray) (k' n' : Int) (s' : ByteArray) : Res :=
  if k = 2 ∧ k' = 2 then numR (n - n') else if k = 3 ∧ k' = 2 then dayR n (-n') else if k = 3 ∧ k' = 3 then numR (if n = 0 ∨ n' = 0 then 0 else n - n') else if k = 4 ∧ k' = 4 then textR (subT s s') else diedR 1
/-- A right value: its parts are bounded. -/
def Bd (k n : Int) (s : ByteArray) : Prop := isV k n s = true ∧ s.size ≤ 2048
theorem Bd.num {n : Int} {s : ByteArray} (h : Bd 2 n s) : -1000000000000000 ≤ n ∧ n ≤ 1000000000000000 := by
  have := h.1
  unfold isV at this
  rw [if_neg (by decide)] at this
  split at this
  · cases this
  · exact isNum_iff.1 (by simpa using this)
theorem Bd.day {n : Int} {s : ByteArray} (h : Bd 3 n s) : 0 ≤ n ∧ n ≤ 3652059 := by
  have := h.1
  unfold isV at this
  rw [if_neg (by decide)] at this
  split at this
  · cases this
  · exact isDay_iff.1 (by simpa using this)
theorem trim_size (s : ByteArray) (c : Int) : (trimR s c).size ≤ s.size := by
  unfold trimR trR
  rw [strB_size, List.length_reverse, ← len_toList]
  have h := (List.dropWhile_sublist (fun b : UInt8 => decide ((b.toNat : Int) = c)) (l := s.toList.reverse)).length_le
  rw [List.length_reverse] at h
  exact h
set_option maxRecDepth 100000 in
set_option maxHeartbeats 2000000 in
theorem add_any (k n : Int) (s : ByteArray) (k' n' : Int) (s' : ByteArray) (w : World) (h1 : Bd k n s) (h2 : Bd k' n' s') : Calls Tryd.prog 60 #[vV k n s, vV k' n' s'] w (Give (rV (addR k n s k' n' s')) w) := by
  unfold vV
  by_cases c1 : k = 2 ∧ k' = 2
  · obtain ⟨rfl, rfl⟩ := c1
    have b1 := h1.num
    have b2 := h2.num
    rw [show addR 2 n s 2 n' s' = numR (n + n') by unfold addR; rw [if_pos ⟨rfl, rfl⟩]]
    have ew : IntKind.i64.wrap (n + n') = n + n' := IntWalk.i64_in _ (by omega)
    go_enter Tryd.func60, Tryd.ntmps60
    go_wp2_with fail
    refine (kinds_any 2 n s 2 n' s' _).mono ?_
    rintro e w1 ⟨rfl, hx1⟩
    have t := hid (There.ext (There.newb ((w.alloc (.cells #[.int .i64 2, .int .i64 n, .string s] 23)).alloc (.cells #[.int .i64 2, .int .i64 n', .string s'] 23)) #[.int .i64 0, .int .i64 0, .string { data := #[] }, .int .i64 0] 70 (n := 4) (b := w.heap.size + 1 + 1) (by simp) (by decide)) hx1)
    have c0_0_0 : w1.cell? ⟨w.heap.size, 0, none⟩ = some (.int .i64 2) := hx1.cell (by go_simp)
    have c0_0_1 : w1.cell? ⟨w.heap.size, 1, none⟩ = some (.int .i64 n) := hx1.cell (by go_simp)
    have c0_0_2 : w1.cell? ⟨w.heap.size, 2, none⟩ = some (.string s) := hx1.cell (by go_simp)
    have c0_1_0 : w1.cell? ⟨w.heap.size + 1, 0, none⟩ = some (.int .i64 2) := hx1.cell (by go_simp)
    have c0_1_1 : w1.cell? ⟨w.heap.size + 1, 1, none⟩ = some (.int .i64 n') := hx1.cell (by go_simp)
    have c0_1_2 : w1.cell? ⟨w.heap.size + 1, 2, none⟩ = some (.string s') := hx1.cell (by go_simp)
    have c0_2_0 : w1.cell? ⟨w.heap.size + 1 + 1, 0, none⟩ = some (.int .i64 0) := hx1.cell (by go_simp)
    have c0_2_1 : w1.cell? ⟨w.heap.size + 1 + 1, 1, none⟩ = some (.int .i64 0) := hx1.cell (by go_simp)
    have c0_2_2 : w1.cell? ⟨w.heap.size + 1 + 1, 2, none⟩ = some (.string { data := #[] }) := hx1.cell (by go_simp)
    have c0_2_3 : w1.cell? ⟨w.heap.size + 1 + 1, 3, none⟩ = some (.int .i64 0) := hx1.cell (by go_simp)
    have hE := hid (Ext.trans ((((Ext.refl w).alloc_right _).alloc_right _).alloc_right _) hx1)
    have lt_1 : w.heap.size < w1.heap.size := World.block_lt_of_cell? w1 _ c0_0_0
    have lt_2 : w.heap.size + 1 < w1.heap.size := World.block_lt_of_cell? w1 _ c0_1_0
    have lt_3 : w.heap.size + 1 + 1 < w1.heap.size := World.block_lt_of_cell? w1 _ c0_2_0
    clear hx1
    go_wp2_with fail
    refine (number_any (n + n') _).mono ?_
    rintro e w2 ⟨rfl, hx2⟩
    replace t := hid (There.ext t.out hx2)
    replace c0_0_0 := hx2.cell c0_0_0
    replace c0_0_1 := hx2.cell c0_0_1
    replace c0_0_2 := hx2.cell c0_0_2
    replace c0_1_0 := hx2.cell c0_1_0
    replace c0_1_1 := hx2.cell c0_1_1
    replace c0_1_2 := hx2.cell c0_1_2
    replace c0_2_0 := hx2.cell c0_2_0
    replace c0_2_1 := hx2.cell c0_2_1
    replace c0_2_2 := hx2.cell c0_2_2
    replace c0_2_3 := hx2.cell c0_2_3
    replace hE := hid (Ext.trans hE.out hx2)
    clear lt_1
    have lt_1 : w.heap.size < w2.heap.size := World.block_lt_of_cell? w2 _ c0_0_0
    clear lt_2
    have lt_2 : w.heap.size + 1 < w2.heap.size := World.block_lt_of_cell? w2 _ c0_1_0
    clear lt_3
    have lt_3 : w.heap.size + 1 + 1 < w2.heap.size := World.block_lt_of_cell? w2 _ c0_2_0
    clear hx2
    unfold rV
    have p0 := t.out.cell (o := 0) (by omega)
    have f0 := t.out.free (o := 0) (by omega)
    have p1 := t.out.cell (o := 1) (by omega)
    have f1 := t.out.free (o := 1) (by omega)
    have p2 := t.out.cell (o := 2) (by omega)
    have f2 := t.out.free (o := 2) (by omega)
    have p3 := t.out.cell (o := 3) (by omega)
    have f3 := t.out.free (o := 3) (by omega)
    have kk := hid (put4 t.out (.int .i64 (numR (n + n')).1) (.int .i64 (numR (n + n')).2.1) (.string (numR (n + n')).2.2.1) (.int .i64 (numR (n + n')).2.2.2))
    have Fin := hid ((((hE.out.set (p := ⟨w.heap.size + 1 + 1, 0, none⟩) (show w.heap.size ≤ w.heap.size + 1 + 1 by omega) (.int .i64 (numR (n + n')).1)).set (p := ⟨w.heap.size + 1 + 1, 1, none⟩) (show w.heap.size ≤ w.heap.size + 1 + 1 by omega) (.int .i64 (numR (n + n')).2.1)).set (p := ⟨w.heap.size + 1 + 1, 2, none⟩) (show w.heap.size ≤ w.heap.size + 1 + 1 by omega) (.string (numR (n + n')).2.2.1)).set (p := ⟨w.heap.size + 1 + 1, 3, none⟩) (show w.heap.size ≤ w.heap.size + 1 + 1 by omega) (.int .i64 (numR (n + n')).2.2.2))
    clear t
    clear c0_2_0 c0_2_1 c0_2_2 c0_2_3
    go_wp2
    obtain ⟨k0, k1, k2, k3⟩ := kk.out
    exact bodyPost_ret (v := .agg #[.int .i64 (numR (n + n')).1, .int .i64 (numR (n + n')).2.1, .string (numR (n + n')).2.2.1, .int .i64 (numR (n + n')).2.2.2]) (by simp [results, Tryd.results60, go_sem, k0, k1, k2, k3]) rfl ⟨rfl, Fin.out⟩
  by_cases c2 : k = 3 ∧ k' = 2
  · obtain ⟨rfl, rfl⟩ := c2
    have b1 := h1.day
    have b2 := h2.num
    rw [show addR 3 n s 2 n' s' = dayR n n' by unfold addR; rw [if_neg c1, if_pos ⟨rfl, rfl⟩]]
    clear c1
    go_enter Tryd.func60, Tryd.ntmps60
    go_wp2_with fail
    refine (kinds_any 3 n s 2 n' s' _).mono ?_
    rintro e w1 ⟨rfl, hx1⟩
    have t := hid (There.ext (There.newb ((w.alloc (.cells #[.int .i64 3, .int .i64 n, .string s] 23)).alloc (.cells #[.int .i64 2, .int .i64 n', .string s'] 23)) #[.int .i64 0, .int .i64 0, .string { data := #[] }, .int .i64 0] 70 (n := 4) (b := w.heap.size + 1 + 1) (by simp) (by decide)) hx1)
    have c0_0_0 : w1.cell? ⟨w.heap.size, 0, none⟩ = some (.int .i64 3) := hx1.cell (by go_simp)
    have c0_0_1 : w1.cell? ⟨w.heap.size, 1, none⟩ = some (.int .i64 n) := hx1.cell (by go_simp)
    have c0_0_2 : w1.cell? ⟨w.heap.size, 2, none⟩ = some (.string s) := hx1.cell (by go_simp)
    have c0_1_0 : w1.cell? ⟨w.heap.size + 1, 0, none⟩ = some (.int .i64 2) := hx1.cell (by go_simp)
    have c0_1_1 : w1.cell? ⟨w.heap.size + 1, 1, none⟩ = some (.int .i64 n') := hx1.cell (by go_simp)
    have c0_1_2 : w1.cell? ⟨w.heap.size + 1, 2, none⟩ = some (.string s') := hx1.cell (by go_simp)
    have c0_2_0 : w1.cell? ⟨w.heap.size + 1 + 1, 0, none⟩ = some (.int .i64 0) := hx1.cell (by go_simp)
    have c0_2_1 : w1.cell? ⟨w.heap.size + 1 + 1, 1, none⟩ = some (.int .i64 0) := hx1.cell (by go_simp)
    have c0_2_2 : w1.cell? ⟨w.heap.size + 1 + 1, 2, none⟩ = some (.string { data := #[] }) := hx1.cell (by go_simp)
    have c0_2_3 : w1.cell? ⟨w.heap.size + 1 + 1, 3, none⟩ = some (.int .i64 0) := hx1.cell (by go_simp)
    have hE := hid (Ext.trans ((((Ext.refl w).alloc_right _).alloc_right _).alloc_right _) hx1)
    have lt_1 : w.heap.size < w1.heap.size := World.block_lt_of_cell? w1 _ c0_0_0
    have lt_2 : w.heap.size + 1 < w1.heap.size := World.block_lt_of_cell? w1 _ c0_1_0
    have lt_3 : w.heap.size + 1 + 1 < w1.heap.size := World.block_lt_of_cell? w1 _ c0_2_0
    clear hx1
    go_wp2_with fail
    refine (day_any n n' _ (by omega) (by omega)).mono ?_
    rintro e w2 ⟨rfl, hx2⟩
    replace t := hid (There.ext t.out hx2)
    replace c0_0_0 := hx2.cell c0_0_0
    replace c0_0_1 := hx2.cell c0_0_1
    replace c0_0_2 := hx2.cell c0_0_2
    replace c0_1_0 := hx2.cell c0_1_0
    replace c0_1_1 := hx2.cell c0_1_1
    replace c0_1_2 := hx2.cell c0_1_2
    replace c0_2_0 := hx2.cell c0_2_0
    replace c0_2_1 := hx2.cell c0_2_1
    replace c0_2_2 := hx2.cell c0_2_2
    replace c0_2_3 := hx2.cell c0_2_3
    replace hE := hid (Ext.trans hE.out hx2)
    clear lt_1
    have lt_1 : w.heap.size < w2.heap.size := World.block_lt_of_cell? w2 _ c0_0_0
    clear lt_2
    have lt_2 : w.heap.size + 1 < w2.heap.size := World.block_lt_of_cell? w2 _ c0_1_0
    clear lt_3
    have lt_3 : w.heap.size + 1 + 1 < w2.heap.size := World.block_lt_of_cell? w2 _ c0_2_0
    clear hx2
    unfold rV
    have p0 := t.out.cell (o := 0) (by omega)
    have f0 := t.out.free (o := 0) (by omega)
    have p1 := t.out.cell (o := 1) (by omega)
    have f1 := t.out.free (o := 1) (by omega)
    have p2 := t.out.cell (o := 2) (by omega)
    have f2 := t.out.free (o := 2) (by omega)
    have p3 := t.out.cell (o := 3) (by omega)
    have f3 := t.out.free (o := 3) (by omega)
    have kk := hid (put4 t.out (.int .i64 (dayR n n').1) (.int .i64 (dayR n n').2.1) (.string (dayR n n').2.2.1) (.int .i64 (dayR n n').2.2.2))
    have Fin := hid ((((hE.out.set (p := ⟨w.heap.size + 1 + 1, 0, none⟩) (show w.heap.size ≤ w.heap.size + 1 + 1 by omega) (.int .i64 (dayR n n').1)).set (p := ⟨w.heap.size + 1 + 1, 1, none⟩) (show w.heap.size ≤ w.heap.size + 1 + 1 by omega) (.int .i64 (dayR n n').2.1)).set (p := ⟨w.heap.size + 1 + 1, 2, none⟩) (show w.heap.size ≤ w.heap.size + 1 + 1 by omega) (.string (dayR n n').2.2.1)).set (p := ⟨w.heap.size + 1 + 1, 3, none⟩) (show w.heap.size ≤ w.heap.size + 1 + 1 by omega) (.int .i64 (dayR n n').2.2.2))
    clear t
    clear c0_2_0 c0_2_1 c0_2_2 c0_2_3
    go_wp2
    obtain ⟨k0, k1, k2, k3⟩ := kk.out
    exact bodyPost_ret (v := .agg #[.int .i64 (dayR n n').1, .int .i64 (dayR n n').2.1, .string (dayR n n').2.2.1, .int .i64 (dayR n n').2.2.2]) (by simp [results, Tryd.results60, go_sem, k0, k1, k2, k3]) rfl ⟨rfl, Fin.out⟩
  by_cases c3 : k = 2 ∧ k' = 3
  · obtain ⟨rfl, rfl⟩ := c3
    have b1 := h1.num
    have b2 := h2.day
    rw [show addR 2 n s 3 n' s' = dayR n' n by unfold addR; rw [if_neg c1, if_neg c2, if_pos ⟨rfl, rfl⟩]]
    clear c1 c2
    go_enter Tryd.func60, Tryd.ntmps60
    go_wp2_with fail
    refine (kinds_any 2 n s 3 n' s' _).mono ?_
    rintro e w1 ⟨rfl, hx1⟩
    have t := hid (There.ext (There.newb ((w.alloc (.cells #[.int .i64 2, .int .i64 n, .string s] 23)).alloc (.cells #[.int .i64 3, .int .i64 n', .string s'] 23)) #[.int .i64 0, .int .i64 0, .string { data := #[] }, .int .i64 0] 70 (n := 4) (b := w.heap.size + 1 + 1) (by simp) (by decide)) hx1)
    have c0_0_0 : w1.cell? ⟨w.heap.size, 0, none⟩ = some (.int .i64 2) := hx1.cell (by go_simp)
    have c0_0_1 : w1.cell? ⟨w.heap.size, 1, none⟩ = some (.int .i64 n) := hx1.cell (by go_simp)
    have c0_0_2 : w1.cell? ⟨w.heap.size, 2, none⟩ = some (.string s) := hx1.cell (by go_simp)
    have c0_1_0 : w1.cell? ⟨w.heap.size + 1, 0, none⟩ = some (.int .i64 3) := hx1.cell (by go_simp)
    have c0_1_1 : w1.cell? ⟨w.heap.size + 1, 1, none⟩ = some (.int .i64 n') := hx1.cell (by go_simp)
    have c0_1_2 : w1.cell? ⟨w.heap.size + 1, 2, none⟩ = some (.string s') := hx1.cell (by go_simp)
    have c0_2_0 : w1.cell? ⟨w.heap.size + 1 + 1, 0, none⟩ = some (.int .i64 0) := hx1.cell (by go_simp)
    have c0_2_1 : w1.cell? ⟨w.heap.size + 1 + 1, 1, none⟩ = some (.int .i64 0) := hx1.cell (by go_simp)
    have c0_2_2 : w1.cell? ⟨w.heap.size + 1 + 1, 2, none⟩ = some (.string { data := #[] }) := hx1.cell (by go_simp)
    have c0_2_3 : w1.cell? ⟨w.heap.size + 1 + 1, 3, none⟩ = some (.int .i64 0) := hx1.cell (by go_simp)
    have hE := hid (Ext.trans ((((Ext.refl w).alloc_right _).alloc_right _).alloc_right _) hx1)
    have lt_1 : w.heap.size < w1.heap.size := World.block_lt_of_cell? w1 _ c0_0_0
    have lt_2 : w.heap.size + 1 < w1.heap.size := World.block_lt_of_cell? w1 _ c0_1_0
    have lt_3 : w.heap.size + 1 + 1 < w1.heap.size := World.block_lt_of_cell? w1 _ c0_2_0
    clear hx1
    go_wp2_with fail
    refine (day_any n' n _ (by omega) (by omega)).mono ?_
    rintro e w2 ⟨rfl, hx2⟩
    replace t := hid (There.ext t.out hx2)
    replace c0_0_0 := hx2.cell c0_0_0
    replace c0_0_1 := hx2.cell c0_0_1
    replace c0_0_2 := hx2.cell c0_0_2
    replace c0_1_0 := hx2.cell c0_1_0
    replace c0_1_1 := hx2.cell c0_1_1
    replace c0_1_2 := hx2.cell c0_1_2
    replace c0_2_0 := hx2.cell c0_2_0
    replace c0_2_1 := hx2.cell c0_2_1
    replace c0_2_2 := hx2.cell c0_2_2
    replace c0_2_3 := hx2.cell c0_2_3
    replace hE := hid (Ext.trans hE.out hx2)
    clear lt_1
    have lt_1 : w.heap.size < w2.heap.size := World.block_lt_of_cell? w2 _ c0_0_0
    clear lt_2
    have lt_2 : w.heap.size + 1 < w2.heap.size := World.block_lt_of_cell? w2 _ c0_1_0
    clear lt_3
    have lt_3 : w.heap.size + 1 + 1 < w2.heap.size := World.block_lt_of_cell? w2 _ c0_2_0
    clear hx2
    unfold rV
    have p0 := t.out.cell (o := 0) (by omega)
    have f0 := t.out.free (o := 0) (by omega)
    have p1 := t.out.cell (o := 1) (by omega)
    have f1 := t.out.free (o := 1) (by omega)
    have p2 := t.out.cell (o := 2) (by omega)
    have f2 := t.out.free (o := 2) (by omega)
    have p3 := t.out.cell (o := 3) (by omega)
    have f3 := t.out.free (o := 3) (by omega)
    have kk := hid (put4 t.out (.int .i64 (dayR n' n).1) (.int .i64 (dayR n' n).2.1) (.string (dayR n' n).2.2.1) (.int .i64 (dayR n' n).2.2.2))
    have Fin := hid ((((hE.out.set (p := ⟨w.heap.size + 1 + 1, 0, none⟩) (show w.heap.size ≤ w.heap.size + 1 + 1 by omega) (.int .i64 (dayR n' n).1)).set (p := ⟨w.heap.size + 1 + 1, 1, none⟩) (show w.heap.size ≤ w.heap.size + 1 + 1 by omega) (.int .i64 (dayR n' n).2.1)).set (p := ⟨w.heap.size + 1 + 1, 2, none⟩) (show w.heap.size ≤ w.heap.size + 1 + 1 by omega) (.string (dayR n' n).2.2.1)).set (p := ⟨w.heap.size + 1 + 1, 3, none⟩) (show w.heap.size ≤ w.heap.size + 1 + 1 by omega) (.int .i64 (dayR n' n).2.2.2))
    clear t
    clear c0_2_0 c0_2_1 c0_2_2 c0_2_3
    go_wp2
    obtain ⟨k0, k1, k2, k3⟩ := kk.out
    exact bodyPost_ret (v := .agg #[.int .i64 (dayR n' n).1, .int .i64 (dayR n' n).2.1, .string (dayR n' n).2.2.1, .int .i64 (dayR n' n).2.2.2]) (by simp [results, Tryd.results60, go_sem, k0, k1, k2, k3]) rfl ⟨rfl, Fin.out⟩
  by_cases c4 : k = 4 ∧ k' = 4
  · obtain ⟨rfl, rfl⟩ := c4
    have b1 := h1.2
    have b2 := h2.2
    have hsum : ¬ (s.size + s'.size > 9223372036854775807) := by omega
    rw [show addR 4 n s 4 n' s' = textR (s ++ s') by unfold addR; rw [if_neg c1, if_neg c2, if_neg c3, if_pos ⟨rfl, rfl⟩]]
    clear c1 c2 c3
    go_enter Tryd.func60, Tryd.ntmps60
    go_wp2_with fail
    refine (kinds_any 4 n s 4 n' s' _).mono ?_
    rintro e w1 ⟨rfl, hx1⟩
    have t := hid (There.ext (There.newb ((w.alloc (.cells #[.int .i64 4, .int .i64 n, .string s] 23)).alloc (.cells #[.int .i64 4, .int .i64 n', .string s'] 23)) #[.int .i64 0, .int .i64 0, .string { data := #[] }, .int .i64 0] 70 (n := 4) (b := w.heap.size + 1 + 1) (by simp) (by decide)) hx1)
    have c0_0_0 : w1.cell? ⟨w.heap.size, 0, none⟩ = some (.int .i64 4) := hx1.cell (by go_simp)
    have c0_0_1 : w1.cell? ⟨w.heap.size, 1, none⟩ = some (.int .i64 n) := hx1.cell (by go_simp)
    have c0_0_2 : w1.cell? ⟨w.heap.size, 2, none⟩ = some (.string s) := hx1.cell (by go_simp)
    have c0_1_0 : w1.cell? ⟨w.heap.size + 1, 0, none⟩ = some (.int .i64 4) := hx1.cell (by go_simp)
    have c0_1_1 : w1.cell? ⟨w.heap.size + 1, 1, none⟩ = some (.int .i64 n') := hx1.cell (by go_simp)
    have c0_1_2 : w1.cell? ⟨w.heap.size + 1, 2, none⟩ = some (.string s') := hx1.cell (by go_simp)
    have c0_2_0 : w1.cell? ⟨w.heap.size + 1 + 1, 0, none⟩ = some (.int .i64 0) := hx1.cell (by go_simp)
    have c0_2_1 : w1.cell? ⟨w.heap.size + 1 + 1, 1, none⟩ = some (.int .i64 0) := hx1.cell (by go_simp)
    have c0_2_2 : w1.cell? ⟨w.heap.size + 1 + 1, 2, none⟩ = some (.string { data := #[] }) := hx1.cell (by go_simp)
    have c0_2_3 : w1.cell? ⟨w.heap.size + 1 + 1, 3, none⟩ = some (.int .i64 0) := hx1.cell (by go_simp)
    have hE := hid (Ext.trans ((((Ext.refl w).alloc_right _).alloc_right _).alloc_right _) hx1)
    have lt_1 : w.heap.size < w1.heap.size := World.block_lt_of_cell? w1 _ c0_0_0
    have lt_2 : w.heap.size + 1 < w1.heap.size := World.block_lt_of_cell? w1 _ c0_1_0
    have lt_3 : w.heap.size + 1 + 1 < w1.heap.size := World.block_lt_of_cell? w1 _ c0_2_0
    clear hx1
    go_wp2_with fail
    refine (text_any (s ++ s') _).mono ?_
    rintro e w2 ⟨rfl, hx2⟩
    replace t := hid (There.ext t.out hx2)
    replace c0_0_0 := hx2.cell c0_0_0
    replace c0_0_1 := hx2.cell c0_0_1
    replace c0_0_2 := hx2.cell c0_0_2
    replace c0_1_0 := hx2.cell c0_1_0
    replace c0_1_1 := hx2.cell c0_1_1
    replace c0_1_2 := hx2.cell c0_1_2
    replace c0_2_0 := hx2.cell c0_2_0
    replace c0_2_1 := hx2.cell c0_2_1
    replace c0_2_2 := hx2.cell c0_2_2
    replace c0_2_3 := hx2.cell c0_2_3
    replace hE := hid (Ext.trans hE.out hx2)
    clear lt_1
    have lt_1 : w.heap.size < w2.heap.size := World.block_lt_of_cell? w2 _ c0_0_0
    clear lt_2
    have lt_2 : w.heap.size + 1 < w2.heap.size := World.block_lt_of_cell? w2 _ c0_1_0
    clear lt_3
    have lt_3 : w.heap.size + 1 + 1 < w2.heap.size := World.block_lt_of_cell? w2 _ c0_2_0
    clear hx2
    unfold rV
    have p0 := t.out.cell (o := 0) (by omega)
    have f0 := t.out.free (o := 0) (by omega)
    have p1 := t.out.cell (o := 1) (by omega)
    have f1 := t.out.free (o := 1) (by omega)
    have p2 := t.out.cell (o := 2) (by omega)
    have f2 := t.out.free (o := 2) (by omega)
    have p3 := t.out.cell (o := 3) (by omega)
    have f3 := t.out.free (o := 3) (by omega)
    have kk := hid (put4 t.out (.int .i64 (textR (s ++ s')).1) (.int .i64 (textR (s ++ s')).2.1) (.string (textR (s ++ s')).2.2.1) (.int .i64 (textR (s ++ s')).2.2.2))
    have Fin := hid ((((hE.out.set (p := ⟨w.heap.size + 1 + 1, 0, none⟩) (show w.heap.size ≤ w.heap.size + 1 + 1 by omega) (.int .i64 (textR (s ++ s')).1)).set (p := ⟨w.heap.size + 1 + 1, 1, none⟩) (show w.heap.size ≤ w.heap.size + 1 + 1 by omega) (.int .i64 (textR (s ++ s')).2.1)).set (p := ⟨w.heap.size + 1 + 1, 2, none⟩) (show w.heap.size ≤ w.heap.size + 1 + 1 by omega) (.string (textR (s ++ s')).2.2.1)).set (p := ⟨w.heap.size + 1 + 1, 3, none⟩) (show w.heap.size ≤ w.heap.size + 1 + 1 by omega) (.int .i64 (textR (s ++ s')).2.2.2))
    clear t
    clear c0_2_0 c0_2_1 c0_2_2 c0_2_3
    go_wp2
    obtain ⟨k0, k1, k2, k3⟩ := kk.out
    exact bodyPost_ret (v := .agg #[.int .i64 (textR (s ++ s')).1, .int .i64 (textR (s ++ s')).2.1, .string (textR (s ++ s')).2.2.1, .int .i64 (textR (s ++ s')).2.2.2]) (by simp [results, Tryd.results60, go_sem, k0, k1, k2, k3]) rfl ⟨rfl, Fin.out⟩
  · rw [show addR k n s k' n' s' = diedR 1 by unfold addR; rw [if_neg c1, if_neg c2, if_neg c3, if_neg c4]]
    have e1 : (k == 2 && k' == 2) = false := by rw [Bool.eq_false_iff]; intro h; simp only [Bool.and_eq_true, beq_iff_eq] at h; exact c1 h
    have e2 : (k == 3 && k' == 2) = false := by rw [Bool.eq_false_iff]; intro h; simp only [Bool.and_eq_true, beq_iff_eq] at h; exact c2 h
    have e3 : (k == 2 && k' == 3) = false := by rw [Bool.eq_false_iff]; intro h; simp only [Bool.and_eq_true, beq_iff_eq] at h; exact c3 h
    have e4 : (k == 4 && k' == 4) = false := by rw [Bool.eq_false_iff]; intro h; simp only [Bool.and_eq_true, beq_iff_eq] at h; exact c4 h
    clear c1 c2 c3 c4
    go_enter Tryd.func60, Tryd.ntmps60
    go_wp2_with fail
    refine (kinds_any k n s k' n' s' _).mono ?_
    rintro e w1 ⟨rfl, hx1⟩
    have t := hid (There.ext (There.newb ((w.alloc (.cells #[.int .i64 k, .int .i64 n, .string s] 23)).alloc (.cells #[.int .i64 k', .int .i64 n', .string s'] 23)) #[.int .i64 0, .int .i64 0, .string { data := #[] }, .int .i64 0] 70 (n := 4) (b := w.heap.size + 1 + 1) (by simp) (by decide)) hx1)
    have c0_0_0 : w1.cell? ⟨w.heap.size, 0, none⟩ = some (.int .i64 k) := hx1.cell (by go_simp)
    have c0_0_1 : w1.cell? ⟨w.heap.size, 1, none⟩ = some (.int .i64 n) := hx1.cell (by go_simp)
    have c0_0_2 : w1.cell? ⟨w.heap.size, 2, none⟩ = some (.string s) := hx1.cell (by go_simp)
    have c0_1_0 : w1.cell? ⟨w.heap.size + 1, 0, none⟩ = some (.int .i64 k') := hx1.cell (by go_simp)
    have c0_1_1 : w1.cell? ⟨w.heap.size + 1, 1, none⟩ = some (.int .i64 n') := hx1.cell (by go_simp)
    have c0_1_2 : w1.cell? ⟨w.heap.size + 1, 2, none⟩ = some (.string s') := hx1.cell (by go_simp)
    have c0_2_0 : w1.cell? ⟨w.heap.size + 1 + 1, 0, none⟩ = some (.int .i64 0) := hx1.cell (by go_simp)
    have c0_2_1 : w1.cell? ⟨w.heap.size + 1 + 1, 1, none⟩ = some (.int .i64 0) := hx1.cell (by go_simp)
    have c0_2_2 : w1.cell? ⟨w.heap.size + 1 + 1, 2, none⟩ = some (.string { data := #[] }) := hx1.cell (by go_simp)
    have c0_2_3 : w1.cell? ⟨w.heap.size + 1 + 1, 3, none⟩ = some (.int .i64 0) := hx1.cell (by go_simp)
    have hE := hid (Ext.trans ((((Ext.refl w).alloc_right _).alloc_right _).alloc_right _) hx1)
    have lt_1 : w.heap.size < w1.heap.size := World.block_lt_of_cell? w1 _ c0_0_0
    have lt_2 : w.heap.size + 1 < w1.heap.size := World.block_lt_of_cell? w1 _ c0_1_0
    have lt_3 : w.heap.size + 1 + 1 < w1.heap.size := World.block_lt_of_cell? w1 _ c0_2_0
    clear hx1
    go_wp2_with fail
    refine (died_r 1 _).mono ?_
    rintro e w2 ⟨rfl, hx2⟩
    replace t := hid (There.ext t.out hx2)
    replace c0_0_0 := hx2.cell c0_0_0
    replace c0_0_1 := hx2.cell c0_0_1
    replace c0_0_2 := hx2.cell c0_0_2
    replace c0_1_0 := hx2.cell c0_1_0
    replace c0_1_1 := hx2.cell c0_1_1
    replace c0_1_2 := hx2.cell c0_1_2
    replace c0_2_0 := hx2.cell c0_2_0
    replace c0_2_1 := hx2.cell c0_2_1
    replace c0_2_2 := hx2.cell c0_2_2
    replace c0_2_3 := hx2.cell c0_2_3
    replace hE := hid (Ext.trans hE.out hx2)
    clear lt_1
    have lt_1 : w.heap.size < w2.heap.size := World.block_lt_of_cell? w2 _ c0_0_0
    clear lt_2
    have lt_2 : w.heap.size + 1 < w2.heap.size := World.block_lt_of_cell? w2 _ c0_1_0
    clear lt_3
    have lt_3 : w.heap.size + 1 + 1 < w2.heap.size := World.block_lt_of_cell? w2 _ c0_2_0
    clear hx2
    unfold rV
    have p0 := t.out.cell (o := 0) (by omega)
    have f0 := t.out.free (o := 0) (by omega)
    have p1 := t.out.cell (o := 1) (by omega)
    have f1 := t.out.free (o := 1) (by omega)
    have p2 := t.out.cell (o := 2) (by omega)
    have f2 := t.out.free (o := 2) (by omega)
    have p3 := t.out.cell (o := 3) (by omega)
    have f3 := t.out.free (o := 3) (by omega)
    have kk := hid (put4 t.out (.int .i64 (diedR 1).1) (.int .i64 (diedR 1).2.1) (.string (diedR 1).2.2.1) (.int .i64 (diedR 1).2.2.2))
    have Fin := hid ((((hE.out.set (p := ⟨w.heap.size + 1 + 1, 0, none⟩) (show w.heap.size ≤ w.heap.size + 1 + 1 by omega) (.int .i64 (diedR 1).1)).set (p := ⟨w.heap.size + 1 + 1, 1, none⟩) (show w.heap.size ≤ w.heap.size + 1 + 1 by omega) (.int .i64 (diedR 1).2.1)).set (p := ⟨w.heap.size + 1 + 1, 2, none⟩) (show w.heap.size ≤ w.heap.size + 1 + 1 by omega) (.string (diedR 1).2.2.1)).set (p := ⟨w.heap.size + 1 + 1, 3, none⟩) (show w.heap.size ≤ w.heap.size + 1 + 1 by omega) (.int .i64 (diedR 1).2.2.2))
    clear t
    clear c0_2_0 c0_2_1 c0_2_2 c0_2_3
    go_wp2
    obtain ⟨k0, k1, k2, k3⟩ := kk.out
    exact bodyPost_ret (v := .agg #[.int .i64 (diedR 1).1, .int .i64 (diedR 1).2.1, .string (diedR 1).2.2.1, .int .i64 (diedR 1).2.2.2]) (by simp [results, Tryd.results60, go_sem, k0, k1, k2, k3]) rfl ⟨rfl, Fin.out⟩
set_option maxRecDepth 100000 in
set_option maxHeartbeats 2000000 in
theorem sub_any (k n : Int) (s : ByteArray) (k' n' : Int) (s' : ByteArray) (w : World) (h1 : Bd k n s) (h2 : Bd k' n' s') : Calls Tryd.prog 61 #[vV k n s, vV k' n' s'] w (Give (rV (subR k n s k' n' s')) w) := by
  unfold vV
  by_cases c1 : k = 2 ∧ k' = 2
  · obtain ⟨rfl, rfl⟩ := c1
    have b1 := h1.num
    have b2 := h2.num
    rw [show subR 2 n s 2 n' s' = numR (n - n') by unfold subR; rw [if_pos ⟨rfl, rfl⟩]]
    have ew : IntKind.i64.wrap (n - n') = n - n' := IntWalk.i64_in _ (by omega)
    go_enter Tryd.func61, Tryd.ntmps61
    go_wp2_with fail
    refine (kinds_any 2 n s 2 n' s' _).mono ?_
    rintro e w1 ⟨rfl, hx1⟩
    have t := hid (There.ext (There.newb ((w.alloc (.cells #[.int .i64 2, .int .i64 n, .string s] 23)).alloc (.cells #[.int .i64 2, .int .i64 n', .string s'] 23)) #[.int .i64 0, .int .i64 0, .string { data := #[] }, .int .i64 0] 70 (n := 4) (b := w.heap.size + 1 + 1) (by simp) (by decide)) hx1)
    have c0_0_0 : w1.cell? ⟨w.heap.size, 0, none⟩ = some (.int .i64 2) := hx1.cell (by go_simp)
    have c0_0_1 : w1.cell? ⟨w.heap.size, 1, none⟩ = some (.int .i64 n) := hx1.cell (by go_simp)
    have c0_0_2 : w1.cell? ⟨w.heap.size, 2, none⟩ = some (.string s) := hx1.cell (by go_simp)
    have c0_1_0 : w1.cell? ⟨w.heap.size + 1, 0, none⟩ = some (.int .i64 2) := hx1.cell (by go_simp)
    have c0_1_1 : w1.cell? ⟨w.heap.size + 1, 1, none⟩ = some (.int .i64 n') := hx1.cell (by go_simp)
    have c0_1_2 : w1.cell? ⟨w.heap.size + 1, 2, none⟩ = some (.string s') := hx1.cell (by go_simp)
    have c0_2_0 : w1.cell? ⟨w.heap.size + 1 + 1, 0, none⟩ = some (.int .i64 0) := hx1.cell (by go_simp)
    have c0_2_1 : w1.cell? ⟨w.heap.size + 1 + 1, 1, none⟩ = some (.int .i64 0) := hx1.cell (by go_simp)
    have c0_2_2 : w1.cell? ⟨w.heap.size + 1 + 1, 2, none⟩ = some (.string { data := #[] }) := hx1.cell (by go_simp)
    have c0_2_3 : w1.cell? ⟨w.heap.size + 1 + 1, 3, none⟩ = some (.int .i64 0) := hx1.cell (by go_simp)
    have hE := hid (Ext.trans ((((Ext.refl w).alloc_right _).alloc_right _).alloc_right _) hx1)
    have lt_1 : w.heap.size < w1.heap.size := World.block_lt_of_cell? w1 _ c0_0_0
    have lt_2 : w.heap.size + 1 < w1.heap.size := World.block_lt_of_cell? w1 _ c0_1_0
    have lt_3 : w.heap.size + 1 + 1 < w1.heap.size := World.block_lt_of_cell? w1 _ c0_2_0
    clear hx1
    go_wp2_with fail
    refine (number_any (n - n') _).mono ?_
    rintro e w2 ⟨rfl, hx2⟩
    replace t := hid (There.ext t.out hx2)
    replace c0_0_0 := hx2.cell c0_0_0
    replace c0_0_1 := hx2.cell c0_0_1
    replace c0_0_2 := hx2.cell c0_0_2
    replace c0_1_0 := hx2.cell c0_1_0
    replace c0_1_1 := hx2.cell c0_1_1
    replace c0_1_2 := hx2.cell c0_1_2
    replace c0_2_0 := hx2.cell c0_2_0
    replace c0_2_1 := hx2.cell c0_2_1
    replace c0_2_2 := hx2.cell c0_2_2
    replace c0_2_3 := hx2.cell c0_2_3
    replace hE := hid (Ext.trans hE.out hx2)
    clear lt_1
    have lt_1 : w.heap.size < w2.heap.size := World.block_lt_of_cell? w2 _ c0_0_0
    clear lt_2
    have lt_2 : w.heap.size + 1 < w2.heap.size := World.block_lt_of_cell? w2 _ c0_1_0
    clear lt_3
    have lt_3 : w.heap.size + 1 + 1 < w2.heap.size := World.block_lt_of_cell? w2 _ c0_2_0
    clear hx2
    unfold rV
    have p0 := t.out.cell (o := 0) (by omega)
    have f0 := t.out.free (o := 0) (by omega)
    have p1 := t.out.cell (o := 1) (by omega)
    have f1 := t.out.free (o := 1) (by omega)
    have p2 := t.out.cell (o := 2) (by omega)
    have f2 := t.out.free (o := 2) (by omega)
    have p3 := t.out.cell (o := 3) (by omega)
    have f3 := t.out.free (o := 3) (by omega)
    have kk := hid (put4 t.out (.int .i64 (numR (n - n')).1) (.int .i64 (numR (n - n')).2.1) (.string (numR (n - n')).2.2.1) (.int .i64 (numR (n - n')).2.2.2))
    have Fin := hid ((((hE.out.set (p := ⟨w.heap.size + 1 + 1, 0, none⟩) (show w.heap.size ≤ w.heap.size + 1 + 1 by omega) (.int .i64 (numR (n - n')).1)).set (p := ⟨w.heap.size + 1 + 1, 1, none⟩) (show w.heap.size ≤ w.heap.size + 1 + 1 by omega) (.int .i64 (numR (n - n')).2.1)).set (p := ⟨w.heap.size + 1 + 1, 2, none⟩) (show w.heap.size ≤ w.heap.size + 1 + 1 by omega) (.string (numR (n - n')).2.2.1)).set (p := ⟨w.heap.size + 1 + 1, 3, none⟩) (show w.heap.size ≤ w.heap.size + 1 + 1 by omega) (.int .i64 (numR (n - n')).2.2.2))
    clear t
    clear c0_2_0 c0_2_1 c0_2_2 c0_2_3
    go_wp2
    obtain ⟨k0, k1, k2, k3⟩ := kk.out
    exact bodyPost_ret (v := .agg #[.int .i64 (numR (n - n')).1, .int .i64 (numR (n - n')).2.1, .string (numR (n - n')).2.2.1, .int .i64 (numR (n - n')).2.2.2]) (by simp [results, Tryd.results61, go_sem, k0, k1, k2, k3]) rfl ⟨rfl, Fin.out⟩
  by_cases c2 : k = 3 ∧ k' = 2
  · obtain ⟨rfl, rfl⟩ := c2
    have b1 := h1.day
    have b2 := h2.num
    rw [show subR 3 n s 2 n' s' = dayR n (-n') by unfold subR; rw [if_neg c1, if_pos ⟨rfl, rfl⟩]]
    clear c1
    have ew : IntKind.i64.wrap (-n') = -n' := IntWalk.i64_in _ (by omega)
    go_enter Tryd.func61, Tryd.ntmps61
    go_wp2_with fail
    refine (kinds_any 3 n s 2 n' s' _).mono ?_
    rintro e w1 ⟨rfl, hx1⟩
    have t := hid (There.ext (There.newb ((w.alloc (.cells #[.int .i64 3, .int .i64 n, .string s] 23)).alloc (.cells #[.int .i64 2, .int .i64 n', .string s'] 23)) #[.int .i64 0, .int .i64 0, .string { data := #[] }, .int .i64 0] 70 (n := 4) (b := w.heap.size + 1 + 1) (by simp) (by decide)) hx1)
    have c0_0_0 : w1.cell? ⟨w.heap.size, 0, none⟩ = some (.int .i64 3) := hx1.cell (by go_simp)
    have c0_0_1 : w1.cell? ⟨w.heap.size, 1, none⟩ = some (.int .i64 n) := hx1.cell (by go_simp)
    have c0_0_2 : w1.cell? ⟨w.heap.size, 2, none⟩ = some (.string s) := hx1.cell (by go_simp)
    have c0_1_0 : w1.cell? ⟨w.heap.size + 1, 0, none⟩ = some (.int .i64 2) := hx1.cell (by go_simp)
    have c0_1_1 : w1.cell? ⟨w.heap.size + 1, 1, none⟩ = some (.int .i64 n') := hx1.cell (by go_simp)
    have c0_1_2 : w1.cell? ⟨w.heap.size + 1, 2, none⟩ = some (.string s') := hx1.cell (by go_simp)
    have c0_2_0 : w1.cell? ⟨w.heap.size + 1 + 1, 0, none⟩ = some (.int .i64 0) := hx1.cell (by go_simp)
    have c0_2_1 : w1.cell? ⟨w.heap.size + 1 + 1, 1, none⟩ = some (.int .i64 0) := hx1.cell (by go_simp)
    have c0_2_2 : w1.cell? ⟨w.heap.size + 1 + 1, 2, none⟩ = some (.string { data := #[] }) := hx1.cell (by go_simp)
    have c0_2_3 : w1.cell? ⟨w.heap.size + 1 + 1, 3, none⟩ = some (.int .i64 0) := hx1.cell (by go_simp)
    have hE := hid (Ext.trans ((((Ext.refl w).alloc_right _).alloc_right _).alloc_right _) hx1)
    have lt_1 : w.heap.size < w1.heap.size := World.block_lt_of_cell? w1 _ c0_0_0
    have lt_2 : w.heap.size + 1 < w1.heap.size := World.block_lt_of_cell? w1 _ c0_1_0
    have lt_3 : w.heap.size + 1 + 1 < w1.heap.size := World.block_lt_of_cell? w1 _ c0_2_0
    clear hx1
    go_wp2_with fail
    refine (day_any n (-n') _ (by omega) (by omega)).mono ?_
    rintro e w2 ⟨rfl, hx2⟩
    replace t := hid (There.ext t.out hx2)
    replace c0_0_0 := hx2.cell c0_0_0
    replace c0_0_1 := hx2.cell c0_0_1
    replace c0_0_2 := hx2.cell c0_0_2
    replace c0_1_0 := hx2.cell c0_1_0
    replace c0_1_1 := hx2.cell c0_1_1
    replace c0_1_2 := hx2.cell c0_1_2
    replace c0_2_0 := hx2.cell c0_2_0
    replace c0_2_1 := hx2.cell c0_2_1
    replace c0_2_2 := hx2.cell c0_2_2
    replace c0_2_3 := hx2.cell c0_2_3
    replace hE := hid (Ext.trans hE.out hx2)
    clear lt_1
    have lt_1 : w.heap.size < w2.heap.size := World.block_lt_of_cell? w2 _ c0_0_0
    clear lt_2
    have lt_2 : w.heap.size + 1 < w2.heap.size := World.block_lt_of_cell? w2 _ c0_1_0
    clear lt_3
    have lt_3 : w.heap.size + 1 + 1 < w2.heap.size := World.block_lt_of_cell? w2 _ c0_2_0
    clear hx2
    unfold rV
    have p0 := t.out.cell (o := 0) (by omega)
    have f0 := t.out.free (o := 0) (by omega)
    have p1 := t.out.cell (o := 1) (by omega)
    have f1 := t.out.free (o := 1) (by omega)
    have p2 := t.out.cell (o := 2) (by omega)
    have f2 := t.out.free (o := 2) (by omega)
    have p3 := t.out.cell (o := 3) (by omega)
    have f3 := t.out.free (o := 3) (by omega)
    have kk := hid (put4 t.out (.int .i64 (dayR n (-n')).1) (.int .i64 (dayR n (-n')).2.1) (.string (dayR n (-n')).2.2.1) (.int .i64 (dayR n (-n')).2.2.2))
    have Fin := hid ((((hE.out.set (p := ⟨w.heap.size + 1 + 1, 0, none⟩) (show w.heap.size ≤ w.heap.size + 1 + 1 by omega) (.int .i64 (dayR n (-n')).1)).set (p := ⟨w.heap.size + 1 + 1, 1, none⟩) (show w.heap.size ≤ w.heap.size + 1 + 1 by omega) (.int .i64 (dayR n (-n')).2.1)).set (p := ⟨w.heap.size + 1 + 1, 2, none⟩) (show w.heap.size ≤ w.heap.size + 1 + 1 by omega) (.string (dayR n (-n')).2.2.1)).set (p := ⟨w.heap.size + 1 + 1, 3, none⟩) (show w.heap.size ≤ w.heap.size + 1 + 1 by omega) (.int .i64 (dayR n (-n')).2.2.2))
    clear t
    clear c0_2_0 c0_2_1 c0_2_2 c0_2_3
    go_wp2
    obtain ⟨k0, k1, k2, k3⟩ := kk.out
    exact bodyPost_ret (v := .agg #[.int .i64 (dayR n (-n')).1, .int .i64 (dayR n (-n')).2.1, .string (dayR n (-n')).2.2.1, .int .i64 (dayR n (-n')).2.2.2]) (by simp [results, Tryd.results61, go_sem, k0, k1, k2, k3]) rfl ⟨rfl, Fin.out⟩
  by_cases c3 : k = 3 ∧ k' = 3
  · obtain ⟨rfl, rfl⟩ := c3
    have b1 := h1.day
    have b2 := h2.day
    by_cases z1 : n = 0
    · rw [show subR 3 n s 3 n' s' = numR 0 by unfold subR; rw [if_neg c1, if_neg c2, if_pos ⟨rfl, rfl⟩, if_pos (Or.inl z1)]]
      have d1 : (n == 0) = true := by simpa using z1
      clear c1 c2 z1
      go_enter Tryd.func61, Tryd.ntmps61
      go_wp2_with fail
      refine (kinds_any 3 n s 3 n' s' _).mono ?_
      rintro e w1 ⟨rfl, hx1⟩
      have t := hid (There.ext (There.newb ((w.alloc (.cells #[.int .i64 3, .int .i64 n, .string s] 23)).alloc (.cells #[.int .i64 3, .int .i64 n', .string s'] 23)) #[.int .i64 0, .int .i64 0, .string { data := #[] }, .int .i64 0] 70 (n := 4) (b := w.heap.size + 1 + 1) (by simp) (by decide)) hx1)
      have c0_0_0 : w1.cell? ⟨w.heap.size, 0, none⟩ = some (.int .i64 3) := hx1.cell (by go_simp)
      have c0_0_1 : w1.cell? ⟨w.heap.size, 1, none⟩ = some (.int .i64 n) := hx1.cell (by go_simp)
      have c0_0_2 : w1.cell? ⟨w.heap.size, 2, none⟩ = some (.string s) := hx1.cell (by go_simp)
      have c0_1_0 : w1.cell? ⟨w.heap.size + 1, 0, none⟩ = some (.int .i64 3) := hx1.cell (by go_simp)
      have c0_1_1 : w1.cell? ⟨w.heap.size + 1, 1, none⟩ = some (.int .i64 n') := hx1.cell (by go_simp)
      have c0_1_2 : w1.cell? ⟨w.heap.size + 1, 2, none⟩ = some (.string s') := hx1.cell (by go_simp)
      have c0_2_0 : w1.cell? ⟨w.heap.size + 1 + 1, 0, none⟩ = some (.int .i64 0) := hx1.cell (by go_simp)
      have c0_2_1 : w1.cell? ⟨w.heap.size + 1 + 1, 1, none⟩ = some (.int .i64 0) := hx1.cell (by go_simp)
      have c0_2_2 : w1.cell? ⟨w.heap.size + 1 + 1, 2, none⟩ = some (.string { data := #[] }) := hx1.cell (by go_simp)
      have c0_2_3 : w1.cell? ⟨w.heap.size + 1 + 1, 3, none⟩ = some (.int .i64 0) := hx1.cell (by go_simp)
      have hE := hid (Ext.trans ((((Ext.refl w).alloc_right _).alloc_right _).alloc_right _) hx1)
      have lt_1 : w.heap.size < w1.heap.size := World.block_lt_of_cell? w1 _ c0_0_0
      have lt_2 : w.heap.size + 1 < w1.heap.size := World.block_lt_of_cell? w1 _ c0_1_0
      have lt_3 : w.heap.size + 1 + 1 < w1.heap.size := World.block_lt_of_cell? w1 _ c0_2_0
      clear hx1
      go_wp2_with fail
      refine (number_any 0 _).mono ?_
      rintro e w2 ⟨rfl, hx2⟩
      replace t := hid (There.ext t.out hx2)
      replace c0_0_0 := hx2.cell c0_0_0
      replace c0_0_1 := hx2.cell c0_0_1
      replace c0_0_2 := hx2.cell c0_0_2
      replace c0_1_0 := hx2.cell c0_1_0
      replace c0_1_1 := hx2.cell c0_1_1
      replace c0_1_2 := hx2.cell c0_1_2
      replace c0_2_0 := hx2.cell c0_2_0
      replace c0_2_1 := hx2.cell c0_2_1
      replace c0_2_2 := hx2.cell c0_2_2
      replace c0_2_3 := hx2.cell c0_2_3
      replace hE := hid (Ext.trans hE.out hx2)
      clear lt_1
      have lt_1 : w.heap.size < w2.heap.size := World.block_lt_of_cell? w2 _ c0_0_0
      clear lt_2
      have lt_2 : w.heap.size + 1 < w2.heap.size := World.block_lt_of_cell? w2 _ c0_1_0
      clear lt_3
      have lt_3 : w.heap.size + 1 + 1 < w2.heap.size := World.block_lt_of_cell? w2 _ c0_2_0
      clear hx2
      unfold rV
      have p0 := t.out.cell (o := 0) (by omega)
      have f0 := t.out.free (o := 0) (by omega)
      have p1 := t.out.cell (o := 1) (by omega)
      have f1 := t.out.free (o := 1) (by omega)
      have p2 := t.out.cell (o := 2) (by omega)
      have f2 := t.out.free (o := 2) (by omega)
      have p3 := t.out.cell (o := 3) (by omega)
      have f3 := t.out.free (o := 3) (by omega)
      have kk := hid (put4 t.out (.int .i64 (numR 0).1) (.int .i64 (numR 0).2.1) (.string (numR 0).2.2.1) (.int .i64 (numR 0).2.2.2))
      have Fin := hid ((((hE.out.set (p := ⟨w.heap.size + 1 + 1, 0, none⟩) (show w.heap.size ≤ w.heap.size + 1 + 1 by omega) (.int .i64 (numR 0).1)).set (p := ⟨w.heap.size + 1 + 1, 1, none⟩) (show w.heap.size ≤ w.heap.size + 1 + 1 by omega) (.int .i64 (numR 0).2.1)).set (p := ⟨w.heap.size + 1 + 1, 2, none⟩) (show w.heap.size ≤ w.heap.size + 1 + 1 by omega) (.string (numR 0).2.2.1)).set (p := ⟨w.heap.size + 1 + 1, 3, none⟩) (show w.heap.size ≤ w.heap.size + 1 + 1 by omega) (.int .i64 (numR 0).2.2.2))
      clear t
      clear c0_2_0 c0_2_1 c0_2_2 c0_2_3
      go_wp2
      obtain ⟨k0, k1, k2, k3⟩ := kk.out
      exact bodyPost_ret (v := .agg #[.int .i64 (numR 0).1, .int .i64 (numR 0).2.1, .string (numR 0).2.2.1, .int .i64 (numR 0).2.2.2]) (by simp [results, Tryd.results61, go_sem, k0, k1, k2, k3]) rfl ⟨rfl, Fin.out⟩
    · have d1 : (n == 0) = false := by simpa using z1
      by_cases z2 : n' = 0
      · rw [show subR 3 n s 3 n' s' = numR 0 by unfold subR; rw [if_neg c1, if_neg c2, if_pos ⟨rfl, rfl⟩, if_pos (Or.inr z2)]]
        have d2 : (n' == 0) = true := by simpa using z2
        clear c1 c2 z1 z2
        go_enter Tryd.func61, Tryd.ntmps61
        go_wp2_with fail
        refine (kinds_any 3 n s 3 n' s' _).mono ?_
        rintro e w1 ⟨rfl, hx1⟩
        have t := hid (There.ext (There.newb ((w.alloc (.cells #[.int .i64 3, .int .i64 n, .string s] 23)).alloc (.cells #[.int .i64 3, .int .i64 n', .string s'] 23)) #[.int .i64 0, .int .i64 0, .string { data := #[] }, .int .i64 0] 70 (n := 4) (b := w.heap.size + 1 + 1) (by simp) (by decide)) hx1)
        have c0_0_0 : w1.cell? ⟨w.heap.size, 0, none⟩ = some (.int .i64 3) := hx1.cell (by go_simp)
        have c0_0_1 : w1.cell? ⟨w.heap.size, 1, none⟩ = some (.int .i64 n) := hx1.cell (by go_simp)
        have c0_0_2 : w1.cell? ⟨w.heap.size, 2, none⟩ = some (.string s) := hx1.cell (by go_simp)
        have c0_1_0 : w1.cell? ⟨w.heap.size + 1, 0, none⟩ = some (.int .i64 3) := hx1.cell (by go_simp)
        have c0_1_1 : w1.cell? ⟨w.heap.size + 1, 1, none⟩ = some (.int .i64 n') := hx1.cell (by go_simp)
        have c0_1_2 : w1.cell? ⟨w.heap.size + 1, 2, none⟩ = some (.string s') := hx1.cell (by go_simp)
        have c0_2_0 : w1.cell? ⟨w.heap.size + 1 + 1, 0, none⟩ = some (.int .i64 0) := hx1.cell (by go_simp)
        have c0_2_1 : w1.cell? ⟨w.heap.size + 1 + 1, 1, none⟩ = some (.int .i64 0) := hx1.cell (by go_simp)
        have c0_2_2 : w1.cell? ⟨w.heap.size + 1 + 1, 2, none⟩ = some (.string { data := #[] }) := hx1.cell (by go_simp)
        have c0_2_3 : w1.cell? ⟨w.heap.size + 1 + 1, 3, none⟩ = some (.int .i64 0) := hx1.cell (by go_simp)
        have hE := hid (Ext.trans ((((Ext.refl w).alloc_right _).alloc_right _).alloc_right _) hx1)
        have lt_1 : w.heap.size < w1.heap.size := World.block_lt_of_cell? w1 _ c0_0_0
        have lt_2 : w.heap.size + 1 < w1.heap.size := World.block_lt_of_cell? w1 _ c0_1_0
        have lt_3 : w.heap.size + 1 + 1 < w1.heap.size := World.block_lt_of_cell? w1 _ c0_2_0
        clear hx1
        go_wp2_with fail
        refine (number_any 0 _).mono ?_
        rintro e w2 ⟨rfl, hx2⟩
        replace t := hid (There.ext t.out hx2)
        replace c0_0_0 := hx2.cell c0_0_0
        replace c0_0_1 := hx2.cell c0_0_1
        replace c0_0_2 := hx2.cell c0_0_2
        replace c0_1_0 := hx2.cell c0_1_0
        replace c0_1_1 := hx2.cell c0_1_1
        replace c0_1_2 := hx2.cell c0_1_2
        replace c0_2_0 := hx2.cell c0_2_0
        replace c0_2_1 := hx2.cell c0_2_1
        replace c0_2_2 := hx2.cell c0_2_2
        replace c0_2_3 := hx2.cell c0_2_3
        replace hE := hid (Ext.trans hE.out hx2)
        clear lt_1
        have lt_1 : w.heap.size < w2.heap.size := World.block_lt_of_cell? w2 _ c0_0_0
        clear lt_2
        have lt_2 : w.heap.size + 1 < w2.heap.size := World.block_lt_of_cell? w2 _ c0_1_0
        clear lt_3
        have lt_3 : w.heap.size + 1 + 1 < w2.heap.size := World.block_lt_of_cell? w2 _ c0_2_0
        clear hx2
        unfold rV
        have p0 := t.out.cell (o := 0) (by omega)
        have f0 := t.out.free (o := 0) (by omega)
        have p1 := t.out.cell (o := 1) (by omega)
        have f1 := t.out.free (o := 1) (by omega)
        have p2 := t.out.cell (o := 2) (by omega)
        have f2 := t.out.free (o := 2) (by omega)
        have p3 := t.out.cell (o := 3) (by omega)
        have f3 := t.out.free (o := 3) (by omega)
        have kk := hid (put4 t.out (.int .i64 (numR 0).1) (.int .i64 (numR 0).2.1) (.string (numR 0).2.2.1) (.int .i64 (numR 0).2.2.2))
        have Fin := hid ((((hE.out.set (p := ⟨w.heap.size + 1 + 1, 0, none⟩) (show w.heap.size ≤ w.heap.size + 1 + 1 by omega) (.int .i64 (numR 0).1)).set (p := ⟨w.heap.size + 1 + 1, 1, none⟩) (show w.heap.size ≤ w.heap.size + 1 + 1 by omega) (.int .i64 (numR 0).2.1)).set (p := ⟨w.heap.size + 1 + 1, 2, none⟩) (show w.heap.size ≤ w.heap.size + 1 + 1 by omega) (.string (numR 0).2.2.1)).set (p := ⟨w.heap.size + 1 + 1, 3, none⟩) (show w.heap.size ≤ w.heap.size + 1 + 1 by omega) (.int .i64 (numR 0).2.2.2))
        clear t
        clear c0_2_0 c0_2_1 c0_2_2 c0_2_3
        go_wp2
        obtain ⟨k0, k1, k2, k3⟩ := kk.out
        exact bodyPost_ret (v := .agg #[.int .i64 (numR 0).1, .int .i64 (numR 0).2.1, .string (numR 0).2.2.1, .int .i64 (numR 0).2.2.2]) (by simp [results, Tryd.results61, go_sem, k0, k1, k2, k3]) rfl ⟨rfl, Fin.out⟩
      · rw [show subR 3 n s 3 n' s' = numR (n - n') by unfold subR; rw [if_neg c1, if_neg c2, if_pos ⟨rfl, rfl⟩, if_neg (by omega)]]
        have d2 : (n' == 0) = false := by simpa using z2
        clear c1 c2 z1 z2
        have ew : IntKind.i64.wrap (n - n') = n - n' := IntWalk.i64_in _ (by omega)
        go_enter Tryd.func61, Tryd.ntmps61
        go_wp2_with fail
        refine (kinds_any 3 n s 3 n' s' _).mono ?_
        rintro e w1 ⟨rfl, hx1⟩
        have t := hid (There.ext (There.newb ((w.alloc (.cells #[.int .i64 3, .int .i64 n, .string s] 23)).alloc (.cells #[.int .i64 3, .int .i64 n', .string s'] 23)) #[.int .i64 0, .int .i64 0, .string { data := #[] }, .int .i64 0] 70 (n := 4) (b := w.heap.size + 1 + 1) (by simp) (by decide)) hx1)
        have c0_0_0 : w1.cell? ⟨w.heap.size, 0, none⟩ = some (.int .i64 3) := hx1.cell (by go_simp)
        have c0_0_1 : w1.cell? ⟨w.heap.size, 1, none⟩ = some (.int .i64 n) := hx1.cell (by go_simp)
        have c0_0_2 : w1.cell? ⟨w.heap.size, 2, none⟩ = some (.string s) := hx1.cell (by go_simp)
        have c0_1_0 : w1.cell? ⟨w.heap.size + 1, 0, none⟩ = some (.int .i64 3) := hx1.cell (by go_simp)
        have c0_1_1 : w1.cell? ⟨w.heap.size + 1, 1, none⟩ = some (.int .i64 n') := hx1.cell (by go_simp)
        have c0_1_2 : w1.cell? ⟨w.heap.size + 1, 2, none⟩ = some (.string s') := hx1.cell (by go_simp)
        have c0_2_0 : w1.cell? ⟨w.heap.size + 1 + 1, 0, none⟩ = some (.int .i64 0) := hx1.cell (by go_simp)
        have c0_2_1 : w1.cell? ⟨w.heap.size + 1 + 1, 1, none⟩ = some (.int .i64 0) := hx1.cell (by go_simp)
        have c0_2_2 : w1.cell? ⟨w.heap.size + 1 + 1, 2, none⟩ = some (.string { data := #[] }) := hx1.cell (by go_simp)
        have c0_2_3 : w1.cell? ⟨w.heap.size + 1 + 1, 3, none⟩ = some (.int .i64 0) := hx1.cell (by go_simp)
        have hE := hid (Ext.trans ((((Ext.refl w).alloc_right _).alloc_right _).alloc_right _) hx1)
        have lt_1 : w.heap.size < w1.heap.size := World.block_lt_of_cell? w1 _ c0_0_0
        have lt_2 : w.heap.size + 1 < w1.heap.size := World.block_lt_of_cell? w1 _ c0_1_0
        have lt_3 : w.heap.size + 1 + 1 < w1.heap.size := World.block_lt_of_cell? w1 _ c0_2_0
        clear hx1
        go_wp2_with fail
        refine (number_any (n - n') _).mono ?_
        rintro e w2 ⟨rfl, hx2⟩
        replace t := hid (There.ext t.out hx2)
        replace c0_0_0 := hx2.cell c0_0_0
        replace c0_0_1 := hx2.cell c0_0_1
        replace c0_0_2 := hx2.cell c0_0_2
        replace c0_1_0 := hx2.cell c0_1_0
        replace c0_1_1 := hx2.cell c0_1_1
        replace c0_1_2 := hx2.cell c0_1_2
        replace c0_2_0 := hx2.cell c0_2_0
        replace c0_2_1 := hx2.cell c0_2_1
        replace c0_2_2 := hx2.cell c0_2_2
        replace c0_2_3 := hx2.cell c0_2_3
        replace hE := hid (Ext.trans hE.out hx2)
        clear lt_1
        have lt_1 : w.heap.size < w2.heap.size := World.block_lt_of_cell? w2 _ c0_0_0
        clear lt_2
        have lt_2 : w.heap.size + 1 < w2.heap.size := World.block_lt_of_cell? w2 _ c0_1_0
        clear lt_3
        have lt_3 : w.heap.size + 1 + 1 < w2.heap.size := World.block_lt_of_cell? w2 _ c0_2_0
        clear hx2
        unfold rV
        have p0 := t.out.cell (o := 0) (by omega)
        have f0 := t.out.free (o := 0) (by omega)
        have p1 := t.out.cell (o := 1) (by omega)
        have f1 := t.out.free (o := 1) (by omega)
        have p2 := t.out.cell (o := 2) (by omega)
        have f2 := t.out.free (o := 2) (by omega)
        have p3 := t.out.cell (o := 3) (by omega)
        have f3 := t.out.free (o := 3) (by omega)
        have kk := hid (put4 t.out (.int .i64 (numR (n - n')).1) (.int .i64 (numR (n - n')).2.1) (.string (numR (n - n')).2.2.1) (.int .i64 (numR (n - n')).2.2.2))
        have Fin := hid ((((hE.out.set (p := ⟨w.heap.size + 1 + 1, 0, none⟩) (show w.heap.size ≤ w.heap.size + 1 + 1 by omega) (.int .i64 (numR (n - n')).1)).set (p := ⟨w.heap.size + 1 + 1, 1, none⟩) (show w.heap.size ≤ w.heap.size + 1 + 1 by omega) (.int .i64 (numR (n - n')).2.1)).set (p := ⟨w.heap.size + 1 + 1, 2, none⟩) (show w.heap.size ≤ w.heap.size + 1 + 1 by omega) (.string (numR (n - n')).2.2.1)).set (p := ⟨w.heap.size + 1 + 1, 3, none⟩) (show w.heap.size ≤ w.heap.size + 1 + 1 by omega) (.int .i64 (numR (n - n')).2.2.2))
        clear t
        clear c0_2_0 c0_2_1 c0_2_2 c0_2_3
        go_wp2
        obtain ⟨k0, k1, k2, k3⟩ := kk.out
        exact bodyPost_ret (v := .agg #[.int .i64 (numR (n - n')).1, .int .i64 (numR (n - n')).2.1, .string (numR (n - n')).2.2.1, .int .i64 (numR (n - n')).2.2.2]) (by simp [results, Tryd.results61, go_sem, k0, k1, k2, k3]) rfl ⟨rfl, Fin.out⟩
  by_cases c4 : k = 4 ∧ k' = 4
  · obtain ⟨rfl, rfl⟩ := c4
    have b1 := h1.2
    have b2 := h2.2
    have ht := trim_size s 32
    rw [show subR 4 n s 4 n' s' = textR (subT s s') by unfold subR; rw [if_neg c1, if_neg c2, if_neg c3, if_pos ⟨rfl, rfl⟩]]
    clear c1 c2 c3
    have hT : Hid (trimR s 32 ++ s' ++ s.extract (trimR s 32).size s.size = subT s s') := rfl
    have hsum : ¬ ((trimR s 32).size + s'.size > 9223372036854775807) := by omega
    have hsum2 : ¬ ((trimR s 32 ++ s').size + (s.extract (trimR s 32).size s.size).size > 9223372036854775807) := by rw [ByteArray.size_append, ByteArray.size_extract]; omega
    have hz := hid (ByteArray.size_extract (a := s) (b := (trimR s 32).size) (e := s.size))
    go_enter Tryd.func61, Tryd.ntmps61
    go_wp2_with fail
    refine (kinds_any 4 n s 4 n' s' _).mono ?_
    rintro e w1 ⟨rfl, hx1⟩
    have t := hid (There.ext (There.newb ((w.alloc (.cells #[.int .i64 4, .int .i64 n, .string s] 23)).alloc (.cells #[.int .i64 4, .int .i64 n', .string s'] 23)) #[.int .i64 0, .int .i64 0, .string { data := #[] }, .int .i64 0] 70 (n := 4) (b := w.heap.size + 1 + 1) (by simp) (by decide)) hx1)
    have c0_0_0 : w1.cell? ⟨w.heap.size, 0, none⟩ = some (.int .i64 4) := hx1.cell (by go_simp)
    have c0_0_1 : w1.cell? ⟨w.heap.size, 1, none⟩ = some (.int .i64 n) := hx1.cell (by go_simp)
    have c0_0_2 : w1.cell? ⟨w.heap.size, 2, none⟩ = some (.string s) := hx1.cell (by go_simp)
    have c0_1_0 : w1.cell? ⟨w.heap.size + 1, 0, none⟩ = some (.int .i64 4) := hx1.cell (by go_simp)
    have c0_1_1 : w1.cell? ⟨w.heap.size + 1, 1, none⟩ = some (.int .i64 n') := hx1.cell (by go_simp)
    have c0_1_2 : w1.cell? ⟨w.heap.size + 1, 2, none⟩ = some (.string s') := hx1.cell (by go_simp)
    have c0_2_0 : w1.cell? ⟨w.heap.size + 1 + 1, 0, none⟩ = some (.int .i64 0) := hx1.cell (by go_simp)
    have c0_2_1 : w1.cell? ⟨w.heap.size + 1 + 1, 1, none⟩ = some (.int .i64 0) := hx1.cell (by go_simp)
    have c0_2_2 : w1.cell? ⟨w.heap.size + 1 + 1, 2, none⟩ = some (.string { data := #[] }) := hx1.cell (by go_simp)
    have c0_2_3 : w1.cell? ⟨w.heap.size + 1 + 1, 3, none⟩ = some (.int .i64 0) := hx1.cell (by go_simp)
    have hE := hid (Ext.trans ((((Ext.refl w).alloc_right _).alloc_right _).alloc_right _) hx1)
    have lt_1 : w.heap.size < w1.heap.size := World.block_lt_of_cell? w1 _ c0_0_0
    have lt_2 : w.heap.size + 1 < w1.heap.size := World.block_lt_of_cell? w1 _ c0_1_0
    have lt_3 : w.heap.size + 1 + 1 < w1.heap.size := World.block_lt_of_cell? w1 _ c0_2_0
    clear hx1
    go_wp2_with fail
    refine (TrimRight_any s (by unfold maxLen; omega) _).mono ?_
    rintro e w' ⟨rfl, rfl⟩
    generalize trimR s 32 = T at *
    have hs3 : ¬ (T.size + s'.size + (s.size - T.size) > 9223372036854775807) := by omega
    have hs4 : T.size + s'.size + (s.size - T.size) ≤ 9223372036854775807 := by omega
    go_wp2
    go_still_tail 10, (by kernel_rfl)
    have hE2 := hid hE.out.drew_right
    have t2 := hid t.out.drew
    clear hE t lt_1 lt_2 lt_3 c0_0_0 c0_0_1 c0_0_2 c0_1_0 c0_1_1 c0_1_2 c0_2_0 c0_2_1 c0_2_2 c0_2_3
    change wpList _ _ _ _ _ w1.drew
    generalize w1.drew = w2 at *
    go_wp2_with fail
    refine (text_any _ _).mono ?_
    rintro e w3 ⟨rfl, hx3⟩
    rw [hT.out]
    replace t2 := hid (There.ext t2.out hx3)
    have hE := hid (Ext.trans hE2.out hx3)
    clear hx3 hE2
    unfold rV
    have p0 := t2.out.cell (o := 0) (by omega)
    have f0 := t2.out.free (o := 0) (by omega)
    have p1 := t2.out.cell (o := 1) (by omega)
    have f1 := t2.out.free (o := 1) (by omega)
    have p2 := t2.out.cell (o := 2) (by omega)
    have f2 := t2.out.free (o := 2) (by omega)
    have p3 := t2.out.cell (o := 3) (by omega)
    have f3 := t2.out.free (o := 3) (by omega)
    have kk := hid (put4 t2.out (.int .i64 (textR (subT s s')).1) (.int .i64 (textR (subT s s')).2.1) (.string (textR (subT s s')).2.2.1) (.int .i64 (textR (subT s s')).2.2.2))
    have Fin := hid ((((hE.out.set (p := ⟨w.heap.size + 1 + 1, 0, none⟩) (show w.heap.size ≤ w.heap.size + 1 + 1 by omega) (.int .i64 (textR (subT s s')).1)).set (p := ⟨w.heap.size + 1 + 1, 1, none⟩) (show w.heap.size ≤ w.heap.size + 1 + 1 by omega) (.int .i64 (textR (subT s s')).2.1)).set (p := ⟨w.heap.size + 1 + 1, 2, none⟩) (show w.heap.size ≤ w.heap.size + 1 + 1 by omega) (.string (textR (subT s s')).2.2.1)).set (p := ⟨w.heap.size + 1 + 1, 3, none⟩) (show w.heap.size ≤ w.heap.size + 1 + 1 by omega) (.int .i64 (textR (subT s s')).2.2.2))
    clear t2
    go_wp2
    obtain ⟨k0, k1, k2, k3⟩ := kk.out
    exact bodyPost_ret (v := .agg #[.int .i64 (textR (subT s s')).1, .int .i64 (textR (subT s s')).2.1, .string (textR (subT s s')).2.2.1, .int .i64 (textR (subT s s')).2.2.2]) (by simp [results, Tryd.results61, go_sem, k0, k1, k2, k3]) rfl ⟨rfl, Fin.out⟩
  · rw [show subR k n s k' n' s' = diedR 1 by unfold subR; rw [if_neg c1, if_neg c2, if_neg c3, if_neg c4]]
    have e1 : (k == 2 && k' == 2) = false := by rw [Bool.eq_false_iff]; intro h; simp only [Bool.and_eq_true, beq_iff_eq] at h; exact c1 h
    have e2 : (k == 3 && k' == 2) = false := by rw [Bool.eq_false_iff]; intro h; simp only [Bool.and_eq_true, beq_iff_eq] at h; exact c2 h
    have e3 : (k == 3 && k' == 3) = false := by rw [Bool.eq_false_iff]; intro h; simp only [Bool.and_eq_true, beq_iff_eq] at h; exact c3 h
    have e4 : (k == 4 && k' == 4) = false := by rw [Bool.eq_false_iff]; intro h; simp only [Bool.and_eq_true, beq_iff_eq] at h; exact c4 h
    clear c1 c2 c3 c4
    go_enter Tryd.func61, Tryd.ntmps61
    go_wp2_with fail
    refine (kinds_any k n s k' n' s' _).mono ?_
    rintro e w1 ⟨rfl, hx1⟩
    have t := hid (There.ext (There.newb ((w.alloc (.cells #[.int .i64 k, .int .i64 n, .string s] 23)).alloc (.cells #[.int .i64 k', .int .i64 n', .string s'] 23)) #[.int .i64 0, .int .i64 0, .string { data := #[] }, .int .i64 0] 70 (n := 4) (b := w.heap.size + 1 + 1) (by simp) (by decide)) hx1)
    have c0_0_0 : w1.cell? ⟨w.heap.size, 0, none⟩ = some (.int .i64 k) := hx1.cell (by go_simp)
    have c0_0_1 : w1.cell? ⟨w.heap.size, 1, none⟩ = some (.int .i64 n) := hx1.cell (by go_simp)
    have c0_0_2 : w1.cell? ⟨w.heap.size, 2, none⟩ = some (.string s) := hx1.cell (by go_simp)
    have c0_1_0 : w1.cell? ⟨w.heap.size + 1, 0, none⟩ = some (.int .i64 k') := hx1.cell (by go_simp)
    have c0_1_1 : w1.cell? ⟨w.heap.size + 1, 1, none⟩ = some (.int .i64 n') := hx1.cell (by go_simp)
    have c0_1_2 : w1.cell? ⟨w.heap.size + 1, 2, none⟩ = some (.string s') := hx1.cell (by go_simp)
    have c0_2_0 : w1.cell? ⟨w.heap.size + 1 + 1, 0, none⟩ = some (.int .i64 0) := hx1.cell (by go_simp)
    have c0_2_1 : w1.cell? ⟨w.heap.size + 1 + 1, 1, none⟩ = some (.int .i64 0) := hx1.cell (by go_simp)
    have c0_2_2 : w1.cell? ⟨w.heap.size + 1 + 1, 2, none⟩ = some (.string { data := #[] }) := hx1.cell (by go_simp)
    have c0_2_3 : w1.cell? ⟨w.heap.size + 1 + 1, 3, none⟩ = some (.int .i64 0) := hx1.cell (by go_simp)
    have hE := hid (Ext.trans ((((Ext.refl w).alloc_right _).alloc_right _).alloc_right _) hx1)
    have lt_1 : w.heap.size < w1.heap.size := World.block_lt_of_cell? w1 _ c0_0_0
    have lt_2 : w.heap.size + 1 < w1.heap.size := World.block_lt_of_cell? w1 _ c0_1_0
    have lt_3 : w.heap.size + 1 + 1 < w1.heap.size := World.block_lt_of_cell? w1 _ c0_2_0
    clear hx1
    go_wp2_with fail
    refine (died_r 1 _).mono ?_
    rintro e w2 ⟨rfl, hx2⟩
    replace t := hid (There.ext t.out hx2)
    replace c0_0_0 := hx2.cell c0_0_0
    replace c0_0_1 := hx2.cell c0_0_1
    replace c0_0_2 := hx2.cell c0_0_2
    replace c0_1_0 := hx2.cell c0_1_0
    replace c0_1_1 := hx2.cell c0_1_1
    replace c0_1_2 := hx2.cell c0_1_2
    replace c0_2_0 := hx2.cell c0_2_0
    replace c0_2_1 := hx2.cell c0_2_1
    replace c0_2_2 := hx2.cell c0_2_2
    replace c0_2_3 := hx2.cell c0_2_3
    replace hE := hid (Ext.trans hE.out hx2)
    clear lt_1
    have lt_1 : w.heap.size < w2.heap.size := World.block_lt_of_cell? w2 _ c0_0_0
    clear lt_2
    have lt_2 : w.heap.size + 1 < w2.heap.size := World.block_lt_of_cell? w2 _ c0_1_0
    clear lt_3
    have lt_3 : w.heap.size + 1 + 1 < w2.heap.size := World.block_lt_of_cell? w2 _ c0_2_0
    clear hx2
    unfold rV
    have p0 := t.out.cell (o := 0) (by omega)
    have f0 := t.out.free (o := 0) (by omega)
    have p1 := t.out.cell (o := 1) (by omega)
    have f1 := t.out.free (o := 1) (by omega)
    have p2 := t.out.cell (o := 2) (by omega)
    have f2 := t.out.free (o := 2) (by omega)
    have p3 := t.out.cell (o := 3) (by omega)
    have f3 := t.out.free (o := 3) (by omega)
    have kk := hid (put4 t.out (.int .i64 (diedR 1).1) (.int .i64 (diedR 1).2.1) (.string (diedR 1).2.2.1) (.int .i64 (diedR 1).2.2.2))
    have Fin := hid ((((hE.out.set (p := ⟨w.heap.size + 1 + 1, 0, none⟩) (show w.heap.size ≤ w.heap.size + 1 + 1 by omega) (.int .i64 (diedR 1).1)).set (p := ⟨w.heap.size + 1 + 1, 1, none⟩) (show w.heap.size ≤ w.heap.size + 1 + 1 by omega) (.int .i64 (diedR 1).2.1)).set (p := ⟨w.heap.size + 1 + 1, 2, none⟩) (show w.heap.size ≤ w.heap.size + 1 + 1 by omega) (.string (diedR 1).2.2.1)).set (p := ⟨w.heap.size + 1 + 1, 3, none⟩) (show w.heap.size ≤ w.heap.size + 1 + 1 by omega) (.int .i64 (diedR 1).2.2.2))
    clear t
    clear c0_2_0 c0_2_1 c0_2_2 c0_2_3
    go_wp2
    obtain ⟨k0, k1, k2, k3⟩ := kk.out
    exact bodyPost_ret (v := .agg #[.int .i64 (diedR 1).1, .int .i64 (diedR 1).2.1, .string (diedR 1).2.2.1, .int .i64 (diedR 1).2.2.2]) (by simp [results, Tryd.results61, go_sem, k0, k1, k2, k3]) rfl ⟨rfl, Fin.out⟩
end Go.Proofs.YtkjcfnmbnddhjaaDoor
