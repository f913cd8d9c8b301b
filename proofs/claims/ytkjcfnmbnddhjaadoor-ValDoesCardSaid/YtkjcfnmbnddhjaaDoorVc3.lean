/-
  The reference's results of operations.
-/
import Derived.Test.YtkjcfnmbnddhjaaDoorVb2
import Derived.Test.YtkjcfnmbnddhjaaDoorVb3
import Derived.Test.YtkjcfnmbnddhjaaDoorVc1
import Derived.Test.YtkjcfnmbnddhjaaDoorVc2
import Derived.StillTailTactics
namespace Go.Proofs.YtkjcfnmbnddhjaaDoor
open Go.RowKit
set_option linter.unusedVariables false
set_option linter.unusedSimpArgs false
def GiveP (r : Res) (w : World) (e : Ending) (w' : World) : Prop := e = .returned (.tuple #[.agg #[.int .i64 r.1, .int .i64 r.2.1, .string r.2.2.1], .int .i64 r.2.2.2]) ∧ Ext w w'
def limR (n : Int) (ok : Bool) : Res := if ok then numR n else diedR 3
theorem Date_any (n : Int) (w : World) : Calls Tryd.prog 151 #[.int .i64 n] w (Give (vV 3 n { data := #[] }) w) := by
  go_enter Tryd.func151, Tryd.ntmps151
  go_wp2
  exact bodyPost_ret (v := .agg #[.int .i64 3, .int .i64 n, .string { data := #[] }]) (by simp [results, Tryd.results151, go_sem]) rfl ⟨rfl, (Ext.refl w).alloc_right _⟩
theorem rabs_any (n : Int) (w : World) (h : -1000000000000000 ≤ n ∧ n ≤ 1000000000000000) : Calls Tryd.prog 150 #[.int .i64 n] w fun e w' => e = .returned (.int .i64 (sizeN n)) ∧ w = w' := by
  have h1 := h.1
  have h2 := h.2
  clear h
  by_cases g : n < 0
  · have d1 : decide (n < 0) = true := by simpa using g
    go_enter Tryd.func150, Tryd.ntmps150
    go_wp2
    go_ret
    exact ⟨ret_int (by unfold sizeN; omega), rfl⟩
  · have d1 : decide (n < 0) = false := by simpa using g
    go_enter Tryd.func150, Tryd.ntmps150
    go_wp2
    go_ret
    exact ⟨ret_int (by unfold sizeN; omega), rfl⟩
/-- A product and whether it is a number. -/
def prO (a b : Int) : Int := if a = 0 ∨ b = 0 then 0 else if 1000000000000000 / sizeN b < sizeN a then 0 else a * b
def prB (a b : Int) : Bool := if a = 0 ∨ b = 0 then true else if 1000000000000000 / sizeN b < sizeN a then false else true
theorem mul_pr (a b : Int) : mulR a b = limR (prO a b) (prB a b) := by
  unfold mulR limR prO prB
  split
  · rfl
  · split <;> rfl
set_option maxRecDepth 100000 in
set_option maxHeartbeats 2000000 in
theorem product_any (a b : Int) (w : World) (ha : -1000000000000000 ≤ a ∧ a ≤ 1000000000000000) (hb : -1000000000000000 ≤ b ∧ b ≤ 1000000000000000) : Calls Tryd.prog 132 #[.int .i64 a, .int .i64 b] w fun e w' => e = .returned (.tuple #[.int .i64 (prO a b), .bool (prB a b)]) ∧ w = w' := by
  by_cases ha0 : a = 0
  · subst ha0
    have Fin : Hid (prO 0 b = 0 ∧ prB 0 b = true) := by unfold Hid prO prB; simp
    go_enter Tryd.func132, Tryd.ntmps132
    go_wp2
    go_ret2
    exact ⟨by rw [Fin.out.1, Fin.out.2]; rfl, rfl⟩
  · have da : (a == 0) = false := by simpa using ha0
    by_cases hb0 : b = 0
    · subst hb0
      have Fin : Hid (prO a 0 = 0 ∧ prB a 0 = true) := by unfold Hid prO prB; simp
      go_enter Tryd.func132, Tryd.ntmps132
      go_wp2
      go_ret2
      exact ⟨by rw [Fin.out.1, Fin.out.2]; rfl, rfl⟩
    · have db : (b == 0) = false := by simpa using hb0
      have sb : 1 ≤ sizeN b := by unfold sizeN; omega
      by_cases hq : 1000000000000000 / sizeN b < sizeN a
      · have Fin : Hid (prO a b = 0 ∧ prB a b = false) := by unfold Hid prO prB; rw [if_neg (by omega), if_pos hq, if_neg (by omega), if_pos hq]; exact ⟨rfl, rfl⟩
        have d1 : decide (1000000000000000 / sizeN b < sizeN a) = true := by simpa using hq
        clear hq
        go_enter Tryd.func132, Tryd.ntmps132
        go_wp2_with fail
        refine (rabs_any _ _ ha).mono ?_
        rintro e w' ⟨rfl, rfl⟩
        go_wp2_with fail
        refine (rabs_any _ _ hb).mono ?_
        rintro e w' ⟨rfl, rfl⟩
        go_wp2
        go_ret2
        exact ⟨by rw [Fin.out.1, Fin.out.2]; rfl, rfl⟩
      · have Fin : Hid (prO a b = a * b ∧ prB a b = true) := by unfold Hid prO prB; rw [if_neg (by omega), if_neg hq, if_neg (by omega), if_neg hq]; exact ⟨rfl, rfl⟩
        have hm := mul_small hq hb0
        have d1 : decide (1000000000000000 / sizeN b < sizeN a) = false := by simpa using hq
        have ew : IntKind.i64.wrap (a * b) = a * b := IntWalk.i64_in _ (by omega)
        clear hq
        go_enter Tryd.func132, Tryd.ntmps132
        go_wp2_with fail
        refine (rabs_any _ _ ha).mono ?_
        rintro e w' ⟨rfl, rfl⟩
        go_wp2_with fail
        refine (rabs_any _ _ hb).mono ?_
        rintro e w' ⟨rfl, rfl⟩
        go_wp2
        go_ret2
        exact ⟨by rw [Fin.out.1, Fin.out.2]; rfl, rfl⟩
set_option maxRecDepth 100000 in
set_option maxHeartbeats 2000000 in
theorem limited_any (n : Int) (ok : Bool) (w : World) : Calls Tryd.prog 131 #[.int .i64 n, .bool ok] w (GiveP (limR n ok) w) := by
  cases ok
  · rw [show limR n false = diedR 3 from rfl]
    go_enter Tryd.func131, Tryd.ntmps131
    go_wp2
    exact bodyPost_ret (v := .tuple #[.agg #[.int .i64 0, .int .i64 0, .string ByteArray.empty], .int .i64 3]) (by simp [results, Tryd.results131, go_sem]; try rfl) rfl ⟨rfl, (Ext.refl w).alloc_right _⟩
  · rw [show limR n true = numR n from rfl]
    rcases Bool.eq_false_or_eq_true (isNumB n) with h | h
    · rw [num_t h]
      go_enter Tryd.func131, Tryd.ntmps131
      go_wp2_with fail
      refine (rInNum_any _ _).mono ?_
      rintro e w' ⟨rfl, rfl⟩
      go_wp2_with fail
      refine (Num_any n _).mono ?_
      rintro e w1 ⟨rfl, hx1⟩
      have t := hid (There.ext (There.newb w #[.int .i64 0, .int .i64 0, .string { data := #[] }] 23 (n := 3) (b := w.heap.size) (by simp) (by decide)) hx1)
      have c0_0_0 : w1.cell? ⟨w.heap.size, 0, none⟩ = some (.int .i64 0) := hx1.cell (by go_simp)
      have c0_0_1 : w1.cell? ⟨w.heap.size, 1, none⟩ = some (.int .i64 0) := hx1.cell (by go_simp)
      have c0_0_2 : w1.cell? ⟨w.heap.size, 2, none⟩ = some (.string { data := #[] }) := hx1.cell (by go_simp)
      have hE := hid (Ext.trans ((Ext.refl w).alloc_right _) hx1)
      have lt_1 : w.heap.size < w1.heap.size := World.block_lt_of_cell? w1 _ c0_0_0
      clear hx1
      unfold vV
      have p0 := t.out.cell (o := 0) (by omega)
      have f0 := t.out.free (o := 0) (by omega)
      have p1 := t.out.cell (o := 1) (by omega)
      have f1 := t.out.free (o := 1) (by omega)
      have p2 := t.out.cell (o := 2) (by omega)
      have f2 := t.out.free (o := 2) (by omega)
      have kk := hid (put3 t.out (.int .i64 2) (.int .i64 n) (.string { data := #[] }))
      have Fin := hid (((hE.out.set (p := ⟨w.heap.size, 0, none⟩) (show w.heap.size ≤ w.heap.size by omega) (.int .i64 2)).set (p := ⟨w.heap.size, 1, none⟩) (show w.heap.size ≤ w.heap.size by omega) (.int .i64 n)).set (p := ⟨w.heap.size, 2, none⟩) (show w.heap.size ≤ w.heap.size by omega) (.string { data := #[] }))
      clear t
      clear c0_0_0 c0_0_1 c0_0_2
      go_wp2
      obtain ⟨k0, k1, k2⟩ := kk.out
      exact bodyPost_ret (v := .tuple #[.agg #[.int .i64 2, .int .i64 n, .string { data := #[] }], .int .i64 0]) (by simp [results, Tryd.results131, go_sem, k0, k1, k2]) rfl ⟨rfl, Fin.out⟩
    · rw [num_f h]
      go_enter Tryd.func131, Tryd.ntmps131
      go_wp2_with fail
      refine (rInNum_any _ _).mono ?_
      rintro e w' ⟨rfl, rfl⟩
      go_wp2
      exact bodyPost_ret (v := .tuple #[.agg #[.int .i64 0, .int .i64 0, .string ByteArray.empty], .int .i64 3]) (by simp [results, Tryd.results131, go_sem]; try rfl) rfl ⟨rfl, (Ext.refl w).alloc_right _⟩
set_option maxRecDepth 100000 in
set_option maxHeartbeats 2000000 in
theorem moved_any (a b : Int) (w : World) (ha : -3700000 ≤ a ∧ a ≤ 3700000) (hb : -1000000000000001 ≤ b ∧ b ≤ 1000000000000001) : Calls Tryd.prog 134 #[.int .i64 a, .int .i64 b] w (GiveP (dayR a b) w) := by
  by_cases h : a = 0
  · subst h
    rw [show dayR 0 b = (3, 0, ByteArray.empty, 0) by unfold dayR; rw [if_pos rfl]]
    go_enter Tryd.func134, Tryd.ntmps134
    go_wp2_with fail
    refine (Date_any 0 _).mono ?_
    rintro e w1 ⟨rfl, hx1⟩
    have t := hid (There.ext (There.newb w #[.int .i64 0, .int .i64 0, .string { data := #[] }] 23 (n := 3) (b := w.heap.size) (by simp) (by decide)) hx1)
    have c0_0_0 : w1.cell? ⟨w.heap.size, 0, none⟩ = some (.int .i64 0) := hx1.cell (by go_simp)
    have c0_0_1 : w1.cell? ⟨w.heap.size, 1, none⟩ = some (.int .i64 0) := hx1.cell (by go_simp)
    have c0_0_2 : w1.cell? ⟨w.heap.size, 2, none⟩ = some (.string { data := #[] }) := hx1.cell (by go_simp)
    have hE := hid (Ext.trans ((Ext.refl w).alloc_right _) hx1)
    have lt_1 : w.heap.size < w1.heap.size := World.block_lt_of_cell? w1 _ c0_0_0
    clear hx1
    unfold vV
    have p0 := t.out.cell (o := 0) (by omega)
    have f0 := t.out.free (o := 0) (by omega)
    have p1 := t.out.cell (o := 1) (by omega)
    have f1 := t.out.free (o := 1) (by omega)
    have p2 := t.out.cell (o := 2) (by omega)
    have f2 := t.out.free (o := 2) (by omega)
    have kk := hid (put3 t.out (.int .i64 3) (.int .i64 0) (.string { data := #[] }))
    have Fin := hid (((hE.out.set (p := ⟨w.heap.size, 0, none⟩) (show w.heap.size ≤ w.heap.size by omega) (.int .i64 3)).set (p := ⟨w.heap.size, 1, none⟩) (show w.heap.size ≤ w.heap.size by omega) (.int .i64 0)).set (p := ⟨w.heap.size, 2, none⟩) (show w.heap.size ≤ w.heap.size by omega) (.string { data := #[] }))
    clear t
    clear c0_0_0 c0_0_1 c0_0_2
    go_wp2
    obtain ⟨k0, k1, k2⟩ := kk.out
    exact bodyPost_ret (v := .tuple #[.agg #[.int .i64 3, .int .i64 0, .string { data := #[] }], .int .i64 0]) (by simp [results, Tryd.results134, go_sem, k0, k1, k2]) rfl ⟨rfl, Fin.out⟩
  · have d0 : (a == 0) = false := by simpa using h
    by_cases h1 : a + b < 1
    · have d1 : decide (a + b < 1) = true := by simpa using h1
      rw [show dayR a b = diedR 3 by unfold dayR; rw [if_neg h, if_pos (Or.inl h1)]]
      clear h1
      go_enter Tryd.func134, Tryd.ntmps134
      go_wp2
      exact bodyPost_ret (v := .tuple #[.agg #[.int .i64 0, .int .i64 0, .string ByteArray.empty], .int .i64 3]) (by simp [results, Tryd.results134, go_sem]; try rfl) rfl ⟨rfl, (Ext.refl w).alloc_right _⟩
    · have d1 : decide (a + b < 1) = false := by simpa using h1
      by_cases h2 : 3652059 < a + b
      · have d2 : decide (3652059 < a + b) = true := by simpa using h2
        rw [show dayR a b = diedR 3 by unfold dayR; rw [if_neg h, if_pos (Or.inr h2)]]
        clear h1 h2
        go_enter Tryd.func134, Tryd.ntmps134
        go_wp2
        exact bodyPost_ret (v := .tuple #[.agg #[.int .i64 0, .int .i64 0, .string ByteArray.empty], .int .i64 3]) (by simp [results, Tryd.results134, go_sem]; try rfl) rfl ⟨rfl, (Ext.refl w).alloc_right _⟩
      · have d2 : decide (3652059 < a + b) = false := by simpa using h2
        rw [show dayR a b = (3, a + b, ByteArray.empty, 0) by unfold dayR; rw [if_neg h, if_neg (by omega)]]
        clear h1 h2
        go_enter Tryd.func134, Tryd.ntmps134
        go_wp2_with fail
        refine (Date_any (a + b) _).mono ?_
        rintro e w1 ⟨rfl, hx1⟩
        have t := hid (There.ext (There.newb w #[.int .i64 0, .int .i64 0, .string { data := #[] }] 23 (n := 3) (b := w.heap.size) (by simp) (by decide)) hx1)
        have c0_0_0 : w1.cell? ⟨w.heap.size, 0, none⟩ = some (.int .i64 0) := hx1.cell (by go_simp)
        have c0_0_1 : w1.cell? ⟨w.heap.size, 1, none⟩ = some (.int .i64 0) := hx1.cell (by go_simp)
        have c0_0_2 : w1.cell? ⟨w.heap.size, 2, none⟩ = some (.string { data := #[] }) := hx1.cell (by go_simp)
        have hE := hid (Ext.trans ((Ext.refl w).alloc_right _) hx1)
        have lt_1 : w.heap.size < w1.heap.size := World.block_lt_of_cell? w1 _ c0_0_0
        clear hx1
        unfold vV
        have p0 := t.out.cell (o := 0) (by omega)
        have f0 := t.out.free (o := 0) (by omega)
        have p1 := t.out.cell (o := 1) (by omega)
        have f1 := t.out.free (o := 1) (by omega)
        have p2 := t.out.cell (o := 2) (by omega)
        have f2 := t.out.free (o := 2) (by omega)
        have kk := hid (put3 t.out (.int .i64 3) (.int .i64 (a + b)) (.string { data := #[] }))
        have Fin := hid (((hE.out.set (p := ⟨w.heap.size, 0, none⟩) (show w.heap.size ≤ w.heap.size by omega) (.int .i64 3)).set (p := ⟨w.heap.size, 1, none⟩) (show w.heap.size ≤ w.heap.size by omega) (.int .i64 (a + b))).set (p := ⟨w.heap.size, 2, none⟩) (show w.heap.size ≤ w.heap.size by omega) (.string { data := #[] }))
        clear t
        clear c0_0_0 c0_0_1 c0_0_2
        go_wp2
        obtain ⟨k0, k1, k2⟩ := kk.out
        exact bodyPost_ret (v := .tuple #[.agg #[.int .i64 3, .int .i64 (a + b), .string { data := #[] }], .int .i64 0]) (by simp [results, Tryd.results134, go_sem, k0, k1, k2]) rfl ⟨rfl, Fin.out⟩
set_option maxRecDepth 100000 in
set_option maxHeartbeats 2000000 in
theorem rtext_any (s : ByteArray) (w : World) : Calls Tryd.prog 135 #[.string s] w (GiveP (textR s) w) := by
  by_cases h : 2048 < s.size
  · have d1 : decide ((2048 : Int) < (s.size : Int)) = true := by simp; omega
    rw [show textR s = diedR 3 by unfold textR; rw [if_pos h]]
    clear h
    go_enter Tryd.func135, Tryd.ntmps135
    go_wp2
    exact bodyPost_ret (v := .tuple #[.agg #[.int .i64 0, .int .i64 0, .string ByteArray.empty], .int .i64 3]) (by simp [results, Tryd.results135, go_sem]; try rfl) rfl ⟨rfl, (Ext.refl w).alloc_right _⟩
  · have d1 : decide ((2048 : Int) < (s.size : Int)) = false := by simp; omega
    rw [show textR s = (4, 0, s, 0) by unfold textR; rw [if_neg h]]
    clear h
    go_enter Tryd.func135, Tryd.ntmps135
    go_wp2_with fail
    refine (Text_any s _).mono ?_
    rintro e w1 ⟨rfl, hx1⟩
    have t := hid (There.ext (There.newb w #[.int .i64 0, .int .i64 0, .string { data := #[] }] 23 (n := 3) (b := w.heap.size) (by simp) (by decide)) hx1)
    have c0_0_0 : w1.cell? ⟨w.heap.size, 0, none⟩ = some (.int .i64 0) := hx1.cell (by go_simp)
    have c0_0_1 : w1.cell? ⟨w.heap.size, 1, none⟩ = some (.int .i64 0) := hx1.cell (by go_simp)
    have c0_0_2 : w1.cell? ⟨w.heap.size, 2, none⟩ = some (.string { data := #[] }) := hx1.cell (by go_simp)
    have hE := hid (Ext.trans ((Ext.refl w).alloc_right _) hx1)
    have lt_1 : w.heap.size < w1.heap.size := World.block_lt_of_cell? w1 _ c0_0_0
    clear hx1
    unfold vV
    have p0 := t.out.cell (o := 0) (by omega)
    have f0 := t.out.free (o := 0) (by omega)
    have p1 := t.out.cell (o := 1) (by omega)
    have f1 := t.out.free (o := 1) (by omega)
    have p2 := t.out.cell (o := 2) (by omega)
    have f2 := t.out.free (o := 2) (by omega)
    have kk := hid (put3 t.out (.int .i64 4) (.int .i64 0) (.string s))
    have Fin := hid (((hE.out.set (p := ⟨w.heap.size, 0, none⟩) (show w.heap.size ≤ w.heap.size by omega) (.int .i64 4)).set (p := ⟨w.heap.size, 1, none⟩) (show w.heap.size ≤ w.heap.size by omega) (.int .i64 0)).set (p := ⟨w.heap.size, 2, none⟩) (show w.heap.size ≤ w.heap.size by omega) (.string s))
    clear t
    clear c0_0_0 c0_0_1 c0_0_2
    go_wp2
    obtain ⟨k0, k1, k2⟩ := kk.out
    exact bodyPost_ret (v := .tuple #[.agg #[.int .i64 4, .int .i64 0, .string s], .int .i64 0]) (by simp [results, Tryd.results135, go_sem, k0, k1, k2]) rfl ⟨rfl, Fin.out⟩
end Go.Proofs.YtkjcfnmbnddhjaaDoor
