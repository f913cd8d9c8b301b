/-
  Operations: numbers, days, texts as results; sums and differences of values.
-/
import Derived.Test.YtkjcfnmbnddhjaaDoorVa4
import Derived.ChangeKeysEq
namespace Go.Proofs.YtkjcfnmbnddhjaaDoor
open Go.RowKit
set_option linter.unusedVariables false
set_option linter.unusedSimpArgs false
theorem There.newb (w : World) (cs : Array Value) (t : TypeId) {n b : Nat} (hb : w.heap.size = b) (hn : n ≤ cs.size) : There (w.alloc (.cells cs t)) b n := hb ▸ There.new w cs t hn
theorem set_get {w : World} {p : Addr} {v : Value} {u : Value} (h : w.cell? p = some u) : (w.setCell p v).cell? p = some v := World.cell?_setCell_same _ _ _ h
theorem set_keep {w : World} {p q : Addr} {v u : Value} (h : w.cell? q = some u) (hne : p ≠ q) : (w.setCell p v).cell? q = some u := by rw [World.cell?_setCell_other _ _ _ _ hne]; exact h
theorem off_ne {b i j : Nat} (h : i ≠ j) : (⟨b, i, none⟩ : Addr) ≠ ⟨b, j, none⟩ := fun e => h (by injection e)
theorem put4 {w : World} {b : Nat} (t : There w b 4) (v0 v1 v2 v3 : Value) :
    ((((w.setCell ⟨b, 0, none⟩ v0).setCell ⟨b, 1, none⟩ v1).setCell ⟨b, 2, none⟩ v2).setCell ⟨b, 3, none⟩ v3).cell? ⟨b, 0, none⟩ = some v0 ∧
    ((((w.setCell ⟨b, 0, none⟩ v0).setCell ⟨b, 1, none⟩ v1).setCell ⟨b, 2, none⟩ v2).setCell ⟨b, 3, none⟩ v3).cell? ⟨b, 1, none⟩ = some v1 ∧
    ((((w.setCell ⟨b, 0, none⟩ v0).setCell ⟨b, 1, none⟩ v1).setCell ⟨b, 2, none⟩ v2).setCell ⟨b, 3, none⟩ v3).cell? ⟨b, 2, none⟩ = some v2 ∧
    ((((w.setCell ⟨b, 0, none⟩ v0).setCell ⟨b, 1, none⟩ v1).setCell ⟨b, 2, none⟩ v2).setCell ⟨b, 3, none⟩ v3).cell? ⟨b, 3, none⟩ = some v3 :=
  ⟨set_keep (set_keep (set_keep (set_get (t.cell (o := 0) (by omega))) (off_ne (by decide))) (off_ne (by decide))) (off_ne (by decide)),
   set_keep (set_keep (set_get ((t.set _ _).cell (o := 1) (by omega))) (off_ne (by decide))) (off_ne (by decide)),
   set_keep (set_get (((t.set _ _).set _ _).cell (o := 2) (by omega))) (off_ne (by decide)),
   set_get ((((t.set _ _).set _ _).set _ _).cell (o := 3) (by omega))⟩
theorem put3 {w : World} {b : Nat} (t : There w b 3) (v0 v1 v2 : Value) :
    (((w.setCell ⟨b, 0, none⟩ v0).setCell ⟨b, 1, none⟩ v1).setCell ⟨b, 2, none⟩ v2).cell? ⟨b, 0, none⟩ = some v0 ∧
    (((w.setCell ⟨b, 0, none⟩ v0).setCell ⟨b, 1, none⟩ v1).setCell ⟨b, 2, none⟩ v2).cell? ⟨b, 1, none⟩ = some v1 ∧
    (((w.setCell ⟨b, 0, none⟩ v0).setCell ⟨b, 1, none⟩ v1).setCell ⟨b, 2, none⟩ v2).cell? ⟨b, 2, none⟩ = some v2 :=
  ⟨set_keep (set_keep (set_get (t.cell (o := 0) (by omega))) (off_ne (by decide))) (off_ne (by decide)),
   set_keep (set_get ((t.set _ _).cell (o := 1) (by omega))) (off_ne (by decide)),
   set_get (((t.set _ _).set _ _).cell (o := 2) (by omega))⟩
theorem cell_alloc {w : World} {a : Addr} {v : Value} (h : w.cell? a = some v) (o : Obj) : (w.alloc o).cell? a = some v := (Ext.refl w).alloc_right o |>.cell h
abbrev Res := Int × Int × ByteArray × Int
/-- A result as a value. -/
def rV (r : Res) : Value := .agg #[.int .i64 r.1, .int .i64 r.2.1, .string r.2.2.1, .int .i64 r.2.2.2]
def diedR (why : Int) : Res := (0, 0, ByteArray.empty, why)
theorem died_r (why : Int) (w : World) : Calls Tryd.prog 106 #[.int .i64 why] w (Give (rV (diedR why)) w) := died_any why w
def numR (n : Int) : Res := if isNumB n then (2, n, ByteArray.empty, 0) else diedR 3
theorem num_t {n : Int} (h : isNumB n = true) : numR n = (2, n, ByteArray.empty, 0) := by unfold numR; rw [if_pos h]
theorem num_f {n : Int} (h : isNumB n = false) : numR n = diedR 3 := by unfold numR; rw [if_neg (by rw [h]; simp)]
def dayR (a b : Int) : Res := if a = 0 then (3, 0, ByteArray.empty, 0) else if a + b < 1 ∨ 3652059 < a + b then diedR 3 else (3, a + b, ByteArray.empty, 0)
def textR (s : ByteArray) : Res := if 2048 < s.size then diedR 3 else (4, 0, s, 0)
theorem Text_any (s : ByteArray) (w : World) : Calls Tryd.prog 58 #[.string s] w (Give (vV 4 0 s) w) := by
  go_enter Tryd.func58, Tryd.ntmps58
  go_wp2
  exact bodyPost_ret (v := .agg #[.int .i64 4, .int .i64 0, .string s]) (by simp [results, Tryd.results58, go_sem]) rfl ⟨rfl, (Ext.refl w).alloc_right _⟩
set_option maxRecDepth 100000 in
set_option maxHeartbeats 2000000 in
theorem number_any (n : Int) (w : World) : Calls Tryd.prog 103 #[.int .i64 n] w (Give (rV (numR n)) w) := by
  rcases Bool.eq_false_or_eq_true (isNumB n) with h | h
  · rw [num_t h]
    go_enter Tryd.func103, Tryd.ntmps103
    go_wp2_with fail
    refine (isNum_any _ _).mono ?_
    rintro e w' ⟨rfl, rfl⟩
    go_wp2
    exact bodyPost_ret (v := .agg #[.int .i64 2, .int .i64 n, .string ByteArray.empty, .int .i64 0]) (by simp [results, Tryd.results103, go_sem]; try rfl) rfl ⟨rfl, (Ext.refl w).alloc_right _⟩
  · rw [num_f h]
    go_enter Tryd.func103, Tryd.ntmps103
    go_wp2_with fail
    refine (isNum_any _ _).mono ?_
    rintro e w' ⟨rfl, rfl⟩
    go_wp2_with fail
    refine (died_r 3 _).mono ?_
    rintro e w1 ⟨rfl, hx1⟩
    have t := hid (There.ext (There.newb w #[.int .i64 0, .int .i64 0, .string { data := #[] }, .int .i64 0] 70 (n := 4) (b := w.heap.size) (by simp) (by decide)) hx1)
    have c0_0_0 : w1.cell? ⟨w.heap.size, 0, none⟩ = some (.int .i64 0) := hx1.cell (by go_simp)
    have c0_0_1 : w1.cell? ⟨w.heap.size, 1, none⟩ = some (.int .i64 0) := hx1.cell (by go_simp)
    have c0_0_2 : w1.cell? ⟨w.heap.size, 2, none⟩ = some (.string { data := #[] }) := hx1.cell (by go_simp)
    have c0_0_3 : w1.cell? ⟨w.heap.size, 3, none⟩ = some (.int .i64 0) := hx1.cell (by go_simp)
    have hE := hid (Ext.trans ((Ext.refl w).alloc_right _) hx1)
    have lt_1 : w.heap.size < w1.heap.size := World.block_lt_of_cell? w1 _ c0_0_0
    clear hx1
    unfold rV
    have p0 := t.out.cell (o := 0) (by omega)
    have f0 := t.out.free (o := 0) (by omega)
    have p1 := t.out.cell (o := 1) (by omega)
    have f1 := t.out.free (o := 1) (by omega)
    have p2 := t.out.cell (o := 2) (by omega)
    have f2 := t.out.free (o := 2) (by omega)
    have p3 := t.out.cell (o := 3) (by omega)
    have f3 := t.out.free (o := 3) (by omega)
    have kk := hid (put4 t.out (.int .i64 (diedR 3).1) (.int .i64 (diedR 3).2.1) (.string (diedR 3).2.2.1) (.int .i64 (diedR 3).2.2.2))
    have Fin := hid ((((hE.out.set (p := ⟨w.heap.size, 0, none⟩) (show w.heap.size ≤ w.heap.size by omega) (.int .i64 (diedR 3).1)).set (p := ⟨w.heap.size, 1, none⟩) (show w.heap.size ≤ w.heap.size by omega) (.int .i64 (diedR 3).2.1)).set (p := ⟨w.heap.size, 2, none⟩) (show w.heap.size ≤ w.heap.size by omega) (.string (diedR 3).2.2.1)).set (p := ⟨w.heap.size, 3, none⟩) (show w.heap.size ≤ w.heap.size by omega) (.int .i64 (diedR 3).2.2.2))
    clear t
    clear c0_0_0 c0_0_1 c0_0_2 c0_0_3
    go_wp2
    obtain ⟨k0, k1, k2, k3⟩ := kk.out
    exact bodyPost_ret (v := .agg #[.int .i64 (diedR 3).1, .int .i64 (diedR 3).2.1, .string (diedR 3).2.2.1, .int .i64 (diedR 3).2.2.2]) (by simp [results, Tryd.results103, go_sem, k0, k1, k2, k3]) rfl ⟨rfl, Fin.out⟩
set_option maxRecDepth 100000 in
set_option maxHeartbeats 2000000 in
theorem day_any (a b : Int) (w : World) (ha : -3700000 ≤ a ∧ a ≤ 3700000) (hb : -1000000000000001 ≤ b ∧ b ≤ 1000000000000001) : Calls Tryd.prog 104 #[.int .i64 a, .int .i64 b] w (Give (rV (dayR a b)) w) := by
  by_cases h : a = 0
  · subst h
    rw [show dayR 0 b = (3, 0, ByteArray.empty, 0) by unfold dayR; rw [if_pos rfl]]
    go_enter Tryd.func104, Tryd.ntmps104
    go_wp2
    exact bodyPost_ret (v := .agg #[.int .i64 3, .int .i64 0, .string ByteArray.empty, .int .i64 0]) (by simp [results, Tryd.results104, go_sem]; try rfl) rfl ⟨rfl, (Ext.refl w).alloc_right _⟩
  · have d0 : (a == 0) = false := by simpa using h
    by_cases h1 : a + b < 1
    · have d1 : decide (a + b < 1) = true := by simpa using h1
      rw [show dayR a b = diedR 3 by unfold dayR; rw [if_neg h, if_pos (Or.inl h1)]]
      clear h1
      go_enter Tryd.func104, Tryd.ntmps104
      go_wp2_with fail
      refine (died_r 3 _).mono ?_
      rintro e w1 ⟨rfl, hx1⟩
      have t := hid (There.ext (There.newb w #[.int .i64 0, .int .i64 0, .string { data := #[] }, .int .i64 0] 70 (n := 4) (b := w.heap.size) (by simp) (by decide)) hx1)
      have c0_0_0 : w1.cell? ⟨w.heap.size, 0, none⟩ = some (.int .i64 0) := hx1.cell (by go_simp)
      have c0_0_1 : w1.cell? ⟨w.heap.size, 1, none⟩ = some (.int .i64 0) := hx1.cell (by go_simp)
      have c0_0_2 : w1.cell? ⟨w.heap.size, 2, none⟩ = some (.string { data := #[] }) := hx1.cell (by go_simp)
      have c0_0_3 : w1.cell? ⟨w.heap.size, 3, none⟩ = some (.int .i64 0) := hx1.cell (by go_simp)
      have hE := hid (Ext.trans ((Ext.refl w).alloc_right _) hx1)
      have lt_1 : w.heap.size < w1.heap.size := World.block_lt_of_cell? w1 _ c0_0_0
      clear hx1
      unfold rV
      have p0 := t.out.cell (o := 0) (by omega)
      have f0 := t.out.free (o := 0) (by omega)
      have p1 := t.out.cell (o := 1) (by omega)
      have f1 := t.out.free (o := 1) (by omega)
      have p2 := t.out.cell (o := 2) (by omega)
      have f2 := t.out.free (o := 2) (by omega)
      have p3 := t.out.cell (o := 3) (by omega)
      have f3 := t.out.free (o := 3) (by omega)
      have kk := hid (put4 t.out (.int .i64 (diedR 3).1) (.int .i64 (diedR 3).2.1) (.string (diedR 3).2.2.1) (.int .i64 (diedR 3).2.2.2))
      have Fin := hid ((((hE.out.set (p := ⟨w.heap.size, 0, none⟩) (show w.heap.size ≤ w.heap.size by omega) (.int .i64 (diedR 3).1)).set (p := ⟨w.heap.size, 1, none⟩) (show w.heap.size ≤ w.heap.size by omega) (.int .i64 (diedR 3).2.1)).set (p := ⟨w.heap.size, 2, none⟩) (show w.heap.size ≤ w.heap.size by omega) (.string (diedR 3).2.2.1)).set (p := ⟨w.heap.size, 3, none⟩) (show w.heap.size ≤ w.heap.size by omega) (.int .i64 (diedR 3).2.2.2))
      clear t
      clear c0_0_0 c0_0_1 c0_0_2 c0_0_3
      go_wp2
      obtain ⟨k0, k1, k2, k3⟩ := kk.out
      exact bodyPost_ret (v := .agg #[.int .i64 (diedR 3).1, .int .i64 (diedR 3).2.1, .string (diedR 3).2.2.1, .int .i64 (diedR 3).2.2.2]) (by simp [results, Tryd.results104, go_sem, k0, k1, k2, k3]) rfl ⟨rfl, Fin.out⟩
    · have d1 : decide (a + b < 1) = false := by simpa using h1
      by_cases h2 : 3652059 < a + b
      · have d2 : decide (3652059 < a + b) = true := by simpa using h2
        rw [show dayR a b = diedR 3 by unfold dayR; rw [if_neg h, if_pos (Or.inr h2)]]
        clear h1 h2
        go_enter Tryd.func104, Tryd.ntmps104
        go_wp2_with fail
        refine (died_r 3 _).mono ?_
        rintro e w1 ⟨rfl, hx1⟩
        have t := hid (There.ext (There.newb w #[.int .i64 0, .int .i64 0, .string { data := #[] }, .int .i64 0] 70 (n := 4) (b := w.heap.size) (by simp) (by decide)) hx1)
        have c0_0_0 : w1.cell? ⟨w.heap.size, 0, none⟩ = some (.int .i64 0) := hx1.cell (by go_simp)
        have c0_0_1 : w1.cell? ⟨w.heap.size, 1, none⟩ = some (.int .i64 0) := hx1.cell (by go_simp)
        have c0_0_2 : w1.cell? ⟨w.heap.size, 2, none⟩ = some (.string { data := #[] }) := hx1.cell (by go_simp)
        have c0_0_3 : w1.cell? ⟨w.heap.size, 3, none⟩ = some (.int .i64 0) := hx1.cell (by go_simp)
        have hE := hid (Ext.trans ((Ext.refl w).alloc_right _) hx1)
        have lt_1 : w.heap.size < w1.heap.size := World.block_lt_of_cell? w1 _ c0_0_0
        clear hx1
        unfold rV
        have p0 := t.out.cell (o := 0) (by omega)
        have f0 := t.out.free (o := 0) (by omega)
        have p1 := t.out.cell (o := 1) (by omega)
        have f1 := t.out.free (o := 1) (by omega)
        have p2 := t.out.cell (o := 2) (by omega)
        have f2 := t.out.free (o := 2) (by omega)
        have p3 := t.out.cell (o := 3) (by omega)
        have f3 := t.out.free (o := 3) (by omega)
        have kk := hid (put4 t.out (.int .i64 (diedR 3).1) (.int .i64 (diedR 3).2.1) (.string (diedR 3).2.2.1) (.int .i64 (diedR 3).2.2.2))
        have Fin := hid ((((hE.out.set (p := ⟨w.heap.size, 0, none⟩) (show w.heap.size ≤ w.heap.size by omega) (.int .i64 (diedR 3).1)).set (p := ⟨w.heap.size, 1, none⟩) (show w.heap.size ≤ w.heap.size by omega) (.int .i64 (diedR 3).2.1)).set (p := ⟨w.heap.size, 2, none⟩) (show w.heap.size ≤ w.heap.size by omega) (.string (diedR 3).2.2.1)).set (p := ⟨w.heap.size, 3, none⟩) (show w.heap.size ≤ w.heap.size by omega) (.int .i64 (diedR 3).2.2.2))
        clear t
        clear c0_0_0 c0_0_1 c0_0_2 c0_0_3
        go_wp2
        obtain ⟨k0, k1, k2, k3⟩ := kk.out
        exact bodyPost_ret (v := .agg #[.int .i64 (diedR 3).1, .int .i64 (diedR 3).2.1, .string (diedR 3).2.2.1, .int .i64 (diedR 3).2.2.2]) (by simp [results, Tryd.results104, go_sem, k0, k1, k2, k3]) rfl ⟨rfl, Fin.out⟩
      · have d2 : decide (3652059 < a + b) = false := by simpa using h2
        rw [show dayR a b = (3, a + b, ByteArray.empty, 0) by unfold dayR; rw [if_neg h, if_neg (by omega)]]
        clear h1 h2
        go_enter Tryd.func104, Tryd.ntmps104
        go_wp2
        exact bodyPost_ret (v := .agg #[.int .i64 3, .int .i64 (a + b), .string ByteArray.empty, .int .i64 0]) (by simp [results, Tryd.results104, go_sem]; try rfl) rfl ⟨rfl, (Ext.refl w).alloc_right _⟩
set_option maxRecDepth 100000 in
set_option maxHeartbeats 2000000 in
theorem text_any (s : ByteArray) (w : World) : Calls Tryd.prog 105 #[.string s] w (Give (rV (textR s)) w) := by
  by_cases h : 2048 < s.size
  · have d1 : decide ((2048 : Int) < (s.size : Int)) = true := by simp; omega
    rw [show textR s = diedR 3 by unfold textR; rw [if_pos h]]
    clear h
    go_enter Tryd.func105, Tryd.ntmps105
    go_wp2_with fail
    refine (died_r 3 _).mono ?_
    rintro e w1 ⟨rfl, hx1⟩
    have t := hid (There.ext (There.newb w #[.int .i64 0, .int .i64 0, .string { data := #[] }, .int .i64 0] 70 (n := 4) (b := w.heap.size) (by simp) (by decide)) hx1)
    have c0_0_0 : w1.cell? ⟨w.heap.size, 0, none⟩ = some (.int .i64 0) := hx1.cell (by go_simp)
    have c0_0_1 : w1.cell? ⟨w.heap.size, 1, none⟩ = some (.int .i64 0) := hx1.cell (by go_simp)
    have c0_0_2 : w1.cell? ⟨w.heap.size, 2, none⟩ = some (.string { data := #[] }) := hx1.cell (by go_simp)
    have c0_0_3 : w1.cell? ⟨w.heap.size, 3, none⟩ = some (.int .i64 0) := hx1.cell (by go_simp)
    have hE := hid (Ext.trans ((Ext.refl w).alloc_right _) hx1)
    have lt_1 : w.heap.size < w1.heap.size := World.block_lt_of_cell? w1 _ c0_0_0
    clear hx1
    unfold rV
    have p0 := t.out.cell (o := 0) (by omega)
    have f0 := t.out.free (o := 0) (by omega)
    have p1 := t.out.cell (o := 1) (by omega)
    have f1 := t.out.free (o := 1) (by omega)
    have p2 := t.out.cell (o := 2) (by omega)
    have f2 := t.out.free (o := 2) (by omega)
    have p3 := t.out.cell (o := 3) (by omega)
    have f3 := t.out.free (o := 3) (by omega)
    have kk := hid (put4 t.out (.int .i64 (diedR 3).1) (.int .i64 (diedR 3).2.1) (.string (diedR 3).2.2.1) (.int .i64 (diedR 3).2.2.2))
    have Fin := hid ((((hE.out.set (p := ⟨w.heap.size, 0, none⟩) (show w.heap.size ≤ w.heap.size by omega) (.int .i64 (diedR 3).1)).set (p := ⟨w.heap.size, 1, none⟩) (show w.heap.size ≤ w.heap.size by omega) (.int .i64 (diedR 3).2.1)).set (p := ⟨w.heap.size, 2, none⟩) (show w.heap.size ≤ w.heap.size by omega) (.string (diedR 3).2.2.1)).set (p := ⟨w.heap.size, 3, none⟩) (show w.heap.size ≤ w.heap.size by omega) (.int .i64 (diedR 3).2.2.2))
    clear t
    clear c0_0_0 c0_0_1 c0_0_2 c0_0_3
    go_wp2
    obtain ⟨k0, k1, k2, k3⟩ := kk.out
    exact bodyPost_ret (v := .agg #[.int .i64 (diedR 3).1, .int .i64 (diedR 3).2.1, .string (diedR 3).2.2.1, .int .i64 (diedR 3).2.2.2]) (by simp [results, Tryd.results105, go_sem, k0, k1, k2, k3]) rfl ⟨rfl, Fin.out⟩
  · have d1 : decide ((2048 : Int) < (s.size : Int)) = false := by simp; omega
    rw [show textR s = (4, 0, s, 0) by unfold textR; rw [if_neg h]]
    clear h
    go_enter Tryd.func105, Tryd.ntmps105
    go_wp2
    exact bodyPost_ret (v := .agg #[.int .i64 4, .int .i64 0, .string s, .int .i64 0]) (by simp [results, Tryd.results105, go_sem]; try rfl) rfl ⟨rfl, (Ext.refl w).alloc_right _⟩
end Go.Proofs.YtkjcfnmbnddhjaaDoor
