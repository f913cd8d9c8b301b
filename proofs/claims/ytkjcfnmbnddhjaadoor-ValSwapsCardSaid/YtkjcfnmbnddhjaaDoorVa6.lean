/-
  Blanks at the end; products and quotients; sums of values.
-/
import Derived.Test.YtkjcfnmbnddhjaaDoorVa5
namespace Go.Proofs.YtkjcfnmbnddhjaaDoor
open Go.RowKit
set_option linter.unusedVariables false
set_option linter.unusedSimpArgs false
def sizeOf' : Value → Nat | .string s => s.size | _ => 0
set_option maxRecDepth 100000 in
set_option maxHeartbeats 1000000 in
theorem trimRB_any (s : ByteArray) (c : Int) (hs : s.size ≤ maxLen) (w : World) : Calls Tryd.prog 113 #[.string s, .int .u8 c] w fun e w' => e = .returned (.string (trimR s c)) ∧ w = w' := by
  unfold maxLen at hs
  go_enter Tryd.func113, Tryd.ntmps113
  go_wp2_with fail
  go_loopw [0] (fun v wr => (∃ t : ByteArray, t.size ≤ s.size ∧ v = .string t ∧ Hid (trimR t c = trimR s c)) ∧ wr = w) (fun v _ => sizeOf' v)
  case atStart => exact ⟨⟨s, by omega, rfl, rfl⟩, rfl⟩
  case round =>
    obtain ⟨⟨t, ht, rfl, hid1⟩, rfl⟩ := hrel
    by_cases h0 : t.size = 0
    · have hz : Hid (t = trimR s c) := by unfold Hid; rw [← hid1.out, trim_none t c h0]
      have d0 : decide ((0 : Int) < (t.size : Int)) = false := by rw [h0]; decide
      go_wp2
      go_ret
      exact ⟨by rw [← hz.out]; rfl, rfl⟩
    · obtain ⟨j, hj⟩ : ∃ j, t.size = j + 1 := ⟨t.size - 1, by omega⟩
      have hb := byte_at t (k := j) (by omega)
      have htl := hid (trim_last t c hj)
      have hj2 : j + 1 ≤ 9223372036854775807 := by omega
      have ej : ((j + 1 : Nat) : Int) - 1 = (j : Int) := by omega
      have ew : IntKind.i64.wrap (((j + 1 : Nat) : Int) - 1) = (j : Int) := by rw [ej]; exact IntWalk.i64_in _ (by omega)
      have d0 : decide ((0 : Int) < ((j + 1 : Nat) : Int)) = true := by simp
      rcases Bool.eq_false_or_eq_true (((t[j]'(by omega)).toNat : Int) == c) with q | q
      · have hn : Hid (trimR (t.extract 0 j) c = trimR s c) := by
          unfold Hid
          rw [← hid1.out]
          exact htl.out.1 (by rw [← hb]; simpa using q)
        have hsz : (t.extract 0 j).size = j := by rw [ByteArray.size_extract]; omega
        have hsz := hid hsz
        clear hb
        go_wp2
        go_roundw
        case rel => exact ⟨⟨t.extract 0 j, by rw [hsz.out]; omega, rfl, hn⟩, by trivial⟩
        case measure => simp only [sizeOf']; rw [hsz.out]; omega
      · have hn : Hid (t = trimR s c) := by
          unfold Hid
          rw [← hid1.out]
          exact (htl.out.2 (by rw [← hb]; simpa using q)).symm
        clear hb
        go_wp2
        go_ret
        exact ⟨by rw [← hn.out]; rfl, rfl⟩
set_option maxRecDepth 100000 in
set_option maxHeartbeats 1000000 in
theorem TrimRight_any (s : ByteArray) (hs : s.size ≤ maxLen) (w : World) : Calls Tryd.prog 73 #[.string s, .string { data := #[32] }] w fun e w' => e = .returned (.string (trimR s 32)) ∧ w = w' := by
  rcases Bool.eq_false_or_eq_true (s.toList.isEmpty) with hz | hz
  · have h0 : s.size = 0 := by have := empty_iff s; rw [hz] at this; simpa using this.symm
    have Fin := hid (trim_none s 32 h0)
    have hs1 : s.toList = [] := by simpa using hz
    clear h0 hs
    go_enter Tryd.func73, Tryd.ntmps73
    go_wp2
    go_ret
    exact ⟨by rw [Fin.out]; rfl, rfl⟩
  · go_enter Tryd.func73, Tryd.ntmps73
    go_wp2_with fail
    refine (trimRB_any s 32 hs _).mono ?_
    rintro e w' ⟨rfl, rfl⟩
    go_wp2
    go_ret
    exact ⟨rfl, rfl⟩
def sizeN (n : Int) : Int := max n (-n)
theorem size_any (n : Int) (w : World) (h : -1000000000000000 ≤ n ∧ n ≤ 1000000000000000) : Calls Tryd.prog 108 #[.int .i64 n] w fun e w' => e = .returned (.int .i64 (sizeN n)) ∧ w = w' := by
  have h1 := h.1
  have h2 := h.2
  clear h
  go_enter Tryd.func108, Tryd.ntmps108
  go_wp2
  all_goals go_ret
  all_goals exact ⟨ret_int (by unfold sizeN; omega), rfl⟩
def mulR (a b : Int) : Res := if a = 0 ∨ b = 0 then numR 0 else if 1000000000000000 / sizeN b < sizeN a then diedR 3 else numR (a * b)
def divR (a b : Int) : Res := if b = 0 then diedR 2 else numR (a.tdiv b)
def modR (a b : Int) : Res := if b = 0 then diedR 2 else numR (a.tmod b)
theorem mul_small {a b : Int} (h : ¬ 1000000000000000 / sizeN b < sizeN a) (hb : b ≠ 0) : -1000000000000000 ≤ a * b ∧ a * b ≤ 1000000000000000 := by
  have hsb : 0 < sizeN b := by unfold sizeN; omega
  have h1 : sizeN a ≤ 1000000000000000 / sizeN b := by omega
  have h2 : sizeN a * sizeN b ≤ 1000000000000000 := Int.le_trans (Int.mul_le_mul_of_nonneg_right h1 (by omega)) (Int.ediv_mul_le _ (by omega))
  have ea : sizeN a = a ∨ sizeN a = -a := by unfold sizeN; omega
  have eb : sizeN b = b ∨ sizeN b = -b := by unfold sizeN; omega
  have hp : 0 ≤ sizeN a * sizeN b := Int.mul_nonneg (by unfold sizeN; omega) (by omega)
  rcases ea with e | e <;> rcases eb with e' | e' <;> rw [e, e'] at h2 hp <;> (try simp only [Int.mul_neg, Int.neg_mul, Int.neg_neg] at h2 hp) <;> omega
set_option maxRecDepth 100000 in
set_option maxHeartbeats 2000000 in
theorem mul_any (a b : Int) (w : World) (ha : -1000000000000000 ≤ a ∧ a ≤ 1000000000000000) (hb : -1000000000000000 ≤ b ∧ b ≤ 1000000000000000) : Calls Tryd.prog 63 #[.int .i64 a, .int .i64 b] w (Give (rV (mulR a b)) w) := by
  by_cases ha0 : a = 0
  · subst ha0
    rw [show mulR 0 b = numR 0 by unfold mulR; rw [if_pos (Or.inl rfl)]]
    go_enter Tryd.func63, Tryd.ntmps63
    go_wp2_with fail
    refine (number_any 0 _).mono ?_
    rintro e w1 ⟨rfl, hx1⟩
    have t := hid (There.ext (There.newb w #[.int .i64 0, .int .i64 0, .string { data := #[] }, .int .i64 0] 70 (n := 4) (b := w.heap.size) (by simp) (by decide)) hx1)
    have c0_0_0 : w1.cell? ⟨w.heap.size, 0, none⟩ = some (.int .i64 0) := hx1.cell (by go_simp)
    have c0_0_1 : w1.cell? ⟨w.heap.size, 1, none⟩ = some (.int .i64 0) := hx1.cell (by go_simp)
    have c0_0_2 : w1.cell? ⟨w.heap.size, 2, none⟩ = some (.string { data := #[] }) := hx1.cell (by go_simp)
    have c0_0_3 : w1.cell? ⟨w.heap.size, 3, none⟩ = some (.int .i64 0) := hx1.cell (by go_simp)
    have hE := hid (Ext.trans ((Ext.refl w).alloc_right _) hx1)
    have lt_1 : w.heap.size < w1.heap.size := World.block_lt_of_cell? w1 _ c0_0_0
    clear hx1
    unfold rV
    have p0 := t.out.cell (o := 0) (by omega)
    have f0 := t.out.free (o := 0) (by omega)
    have p1 := t.out.cell (o := 1) (by omega)
    have f1 := t.out.free (o := 1) (by omega)
    have p2 := t.out.cell (o := 2) (by omega)
    have f2 := t.out.free (o := 2) (by omega)
    have p3 := t.out.cell (o := 3) (by omega)
    have f3 := t.out.free (o := 3) (by omega)
    have kk := hid (put4 t.out (.int .i64 (numR 0).1) (.int .i64 (numR 0).2.1) (.string (numR 0).2.2.1) (.int .i64 (numR 0).2.2.2))
    have Fin := hid ((((hE.out.set (p := ⟨w.heap.size, 0, none⟩) (show w.heap.size ≤ w.heap.size by omega) (.int .i64 (numR 0).1)).set (p := ⟨w.heap.size, 1, none⟩) (show w.heap.size ≤ w.heap.size by omega) (.int .i64 (numR 0).2.1)).set (p := ⟨w.heap.size, 2, none⟩) (show w.heap.size ≤ w.heap.size by omega) (.string (numR 0).2.2.1)).set (p := ⟨w.heap.size, 3, none⟩) (show w.heap.size ≤ w.heap.size by omega) (.int .i64 (numR 0).2.2.2))
    clear t
    clear c0_0_0 c0_0_1 c0_0_2 c0_0_3
    go_wp2
    obtain ⟨k0, k1, k2, k3⟩ := kk.out
    exact bodyPost_ret (v := .agg #[.int .i64 (numR 0).1, .int .i64 (numR 0).2.1, .string (numR 0).2.2.1, .int .i64 (numR 0).2.2.2]) (by simp [results, Tryd.results63, go_sem, k0, k1, k2, k3]) rfl ⟨rfl, Fin.out⟩
  · have da : (a == 0) = false := by simpa using ha0
    by_cases hb0 : b = 0
    · subst hb0
      rw [show mulR a 0 = numR 0 by unfold mulR; rw [if_pos (Or.inr rfl)]]
      go_enter Tryd.func63, Tryd.ntmps63
      go_wp2_with fail
      refine (number_any 0 _).mono ?_
      rintro e w1 ⟨rfl, hx1⟩
      have t := hid (There.ext (There.newb w #[.int .i64 0, .int .i64 0, .string { data := #[] }, .int .i64 0] 70 (n := 4) (b := w.heap.size) (by simp) (by decide)) hx1)
      have c0_0_0 : w1.cell? ⟨w.heap.size, 0, none⟩ = some (.int .i64 0) := hx1.cell (by go_simp)
      have c0_0_1 : w1.cell? ⟨w.heap.size, 1, none⟩ = some (.int .i64 0) := hx1.cell (by go_simp)
      have c0_0_2 : w1.cell? ⟨w.heap.size, 2, none⟩ = some (.string { data := #[] }) := hx1.cell (by go_simp)
      have c0_0_3 : w1.cell? ⟨w.heap.size, 3, none⟩ = some (.int .i64 0) := hx1.cell (by go_simp)
      have hE := hid (Ext.trans ((Ext.refl w).alloc_right _) hx1)
      have lt_1 : w.heap.size < w1.heap.size := World.block_lt_of_cell? w1 _ c0_0_0
      clear hx1
      unfold rV
      have p0 := t.out.cell (o := 0) (by omega)
      have f0 := t.out.free (o := 0) (by omega)
      have p1 := t.out.cell (o := 1) (by omega)
      have f1 := t.out.free (o := 1) (by omega)
      have p2 := t.out.cell (o := 2) (by omega)
      have f2 := t.out.free (o := 2) (by omega)
      have p3 := t.out.cell (o := 3) (by omega)
      have f3 := t.out.free (o := 3) (by omega)
      have kk := hid (put4 t.out (.int .i64 (numR 0).1) (.int .i64 (numR 0).2.1) (.string (numR 0).2.2.1) (.int .i64 (numR 0).2.2.2))
      have Fin := hid ((((hE.out.set (p := ⟨w.heap.size, 0, none⟩) (show w.heap.size ≤ w.heap.size by omega) (.int .i64 (numR 0).1)).set (p := ⟨w.heap.size, 1, none⟩) (show w.heap.size ≤ w.heap.size by omega) (.int .i64 (numR 0).2.1)).set (p := ⟨w.heap.size, 2, none⟩) (show w.heap.size ≤ w.heap.size by omega) (.string (numR 0).2.2.1)).set (p := ⟨w.heap.size, 3, none⟩) (show w.heap.size ≤ w.heap.size by omega) (.int .i64 (numR 0).2.2.2))
      clear t
      clear c0_0_0 c0_0_1 c0_0_2 c0_0_3
      go_wp2
      obtain ⟨k0, k1, k2, k3⟩ := kk.out
      exact bodyPost_ret (v := .agg #[.int .i64 (numR 0).1, .int .i64 (numR 0).2.1, .string (numR 0).2.2.1, .int .i64 (numR 0).2.2.2]) (by simp [results, Tryd.results63, go_sem, k0, k1, k2, k3]) rfl ⟨rfl, Fin.out⟩
    · have db : (b == 0) = false := by simpa using hb0
      have sb : 1 ≤ sizeN b := by unfold sizeN; omega
      by_cases hq : 1000000000000000 / sizeN b < sizeN a
      · rw [show mulR a b = diedR 3 by unfold mulR; rw [if_neg (by omega), if_pos hq]]
        have d1 : decide (1000000000000000 / sizeN b < sizeN a) = true := by simpa using hq
        clear hq
        go_enter Tryd.func63, Tryd.ntmps63
        go_wp2_with fail
        refine (size_any _ _ ha).mono ?_
        rintro e w' ⟨rfl, rfl⟩
        go_wp2_with fail
        refine (size_any _ _ hb).mono ?_
        rintro e w' ⟨rfl, rfl⟩
        go_wp2_with fail
        refine (died_r 3 _).mono ?_
        rintro e w1 ⟨rfl, hx1⟩
        have t := hid (There.ext (There.newb w #[.int .i64 0, .int .i64 0, .string { data := #[] }, .int .i64 0] 70 (n := 4) (b := w.heap.size) (by simp) (by decide)) hx1)
        have c0_0_0 : w1.cell? ⟨w.heap.size, 0, none⟩ = some (.int .i64 0) := hx1.cell (by go_simp)
        have c0_0_1 : w1.cell? ⟨w.heap.size, 1, none⟩ = some (.int .i64 0) := hx1.cell (by go_simp)
        have c0_0_2 : w1.cell? ⟨w.heap.size, 2, none⟩ = some (.string { data := #[] }) := hx1.cell (by go_simp)
        have c0_0_3 : w1.cell? ⟨w.heap.size, 3, none⟩ = some (.int .i64 0) := hx1.cell (by go_simp)
        have hE := hid (Ext.trans ((Ext.refl w).alloc_right _) hx1)
        have lt_1 : w.heap.size < w1.heap.size := World.block_lt_of_cell? w1 _ c0_0_0
        clear hx1
        unfold rV
        have p0 := t.out.cell (o := 0) (by omega)
        have f0 := t.out.free (o := 0) (by omega)
        have p1 := t.out.cell (o := 1) (by omega)
        have f1 := t.out.free (o := 1) (by omega)
        have p2 := t.out.cell (o := 2) (by omega)
        have f2 := t.out.free (o := 2) (by omega)
        have p3 := t.out.cell (o := 3) (by omega)
        have f3 := t.out.free (o := 3) (by omega)
        have kk := hid (put4 t.out (.int .i64 (diedR 3).1) (.int .i64 (diedR 3).2.1) (.string (diedR 3).2.2.1) (.int .i64 (diedR 3).2.2.2))
        have Fin := hid ((((hE.out.set (p := ⟨w.heap.size, 0, none⟩) (show w.heap.size ≤ w.heap.size by omega) (.int .i64 (diedR 3).1)).set (p := ⟨w.heap.size, 1, none⟩) (show w.heap.size ≤ w.heap.size by omega) (.int .i64 (diedR 3).2.1)).set (p := ⟨w.heap.size, 2, none⟩) (show w.heap.size ≤ w.heap.size by omega) (.string (diedR 3).2.2.1)).set (p := ⟨w.heap.size, 3, none⟩) (show w.heap.size ≤ w.heap.size by omega) (.int .i64 (diedR 3).2.2.2))
        clear t
        clear c0_0_0 c0_0_1 c0_0_2 c0_0_3
        go_wp2
        obtain ⟨k0, k1, k2, k3⟩ := kk.out
        exact bodyPost_ret (v := .agg #[.int .i64 (diedR 3).1, .int .i64 (diedR 3).2.1, .string (diedR 3).2.2.1, .int .i64 (diedR 3).2.2.2]) (by simp [results, Tryd.results63, go_sem, k0, k1, k2, k3]) rfl ⟨rfl, Fin.out⟩
      · rw [show mulR a b = numR (a * b) by unfold mulR; rw [if_neg (by omega), if_neg hq]]
        have hm := mul_small hq hb0
        have d1 : decide (1000000000000000 / sizeN b < sizeN a) = false := by simpa using hq
        have ew : IntKind.i64.wrap (a * b) = a * b := IntWalk.i64_in _ (by omega)
        have ew2 : wrap64 (a * b) = a * b := IntWalk.wrap64_in _ ⟨by omega, by omega⟩
        clear hq
        go_enter Tryd.func63, Tryd.ntmps63
        go_wp2_with fail
        refine (size_any _ _ ha).mono ?_
        rintro e w' ⟨rfl, rfl⟩
        go_wp2_with fail
        refine (size_any _ _ hb).mono ?_
        rintro e w' ⟨rfl, rfl⟩
        go_wp2_with fail
        refine (number_any (a * b) _).mono ?_
        rintro e w1 ⟨rfl, hx1⟩
        have t := hid (There.ext (There.newb w #[.int .i64 0, .int .i64 0, .string { data := #[] }, .int .i64 0] 70 (n := 4) (b := w.heap.size) (by simp) (by decide)) hx1)
        have c0_0_0 : w1.cell? ⟨w.heap.size, 0, none⟩ = some (.int .i64 0) := hx1.cell (by go_simp)
        have c0_0_1 : w1.cell? ⟨w.heap.size, 1, none⟩ = some (.int .i64 0) := hx1.cell (by go_simp)
        have c0_0_2 : w1.cell? ⟨w.heap.size, 2, none⟩ = some (.string { data := #[] }) := hx1.cell (by go_simp)
        have c0_0_3 : w1.cell? ⟨w.heap.size, 3, none⟩ = some (.int .i64 0) := hx1.cell (by go_simp)
        have hE := hid (Ext.trans ((Ext.refl w).alloc_right _) hx1)
        have lt_1 : w.heap.size < w1.heap.size := World.block_lt_of_cell? w1 _ c0_0_0
        clear hx1
        unfold rV
        have p0 := t.out.cell (o := 0) (by omega)
        have f0 := t.out.free (o := 0) (by omega)
        have p1 := t.out.cell (o := 1) (by omega)
        have f1 := t.out.free (o := 1) (by omega)
        have p2 := t.out.cell (o := 2) (by omega)
        have f2 := t.out.free (o := 2) (by omega)
        have p3 := t.out.cell (o := 3) (by omega)
        have f3 := t.out.free (o := 3) (by omega)
        have kk := hid (put4 t.out (.int .i64 (numR (a * b)).1) (.int .i64 (numR (a * b)).2.1) (.string (numR (a * b)).2.2.1) (.int .i64 (numR (a * b)).2.2.2))
        have Fin := hid ((((hE.out.set (p := ⟨w.heap.size, 0, none⟩) (show w.heap.size ≤ w.heap.size by omega) (.int .i64 (numR (a * b)).1)).set (p := ⟨w.heap.size, 1, none⟩) (show w.heap.size ≤ w.heap.size by omega) (.int .i64 (numR (a * b)).2.1)).set (p := ⟨w.heap.size, 2, none⟩) (show w.heap.size ≤ w.heap.size by omega) (.string (numR (a * b)).2.2.1)).set (p := ⟨w.heap.size, 3, none⟩) (show w.heap.size ≤ w.heap.size by omega) (.int .i64 (numR (a * b)).2.2.2))
        clear t
        clear c0_0_0 c0_0_1 c0_0_2 c0_0_3
        go_wp2
        obtain ⟨k0, k1, k2, k3⟩ := kk.out
        exact bodyPost_ret (v := .agg #[.int .i64 (numR (a * b)).1, .int .i64 (numR (a * b)).2.1, .string (numR (a * b)).2.2.1, .int .i64 (numR (a * b)).2.2.2]) (by simp [results, Tryd.results63, go_sem, k0, k1, k2, k3]) rfl ⟨rfl, Fin.out⟩
theorem div_in {a b : Int} (ha : -1000000000000000 ≤ a ∧ a ≤ 1000000000000000) (hb : b ≠ 0) : -1000000000000000 ≤ a.tdiv b ∧ a.tdiv b ≤ 1000000000000000 := by
  have h : (a.tdiv b).natAbs ≤ a.natAbs := Int.natAbs_tdiv_le_natAbs a b
  omega
theorem mod_in {a b : Int} (ha : -1000000000000000 ≤ a ∧ a ≤ 1000000000000000) (hb : b ≠ 0) : -1000000000000000 ≤ a.tmod b ∧ a.tmod b ≤ 1000000000000000 := by
  have h : (a.tmod b).natAbs = a.natAbs % b.natAbs := Int.natAbs_tmod a b
  have := Nat.mod_le a.natAbs b.natAbs
  omega
set_option maxRecDepth 100000 in
set_option maxHeartbeats 2000000 in
theorem div_any (a b : Int) (w : World) (ha : -1000000000000000 ≤ a ∧ a ≤ 1000000000000000) (hb : -1000000000000000 ≤ b ∧ b ≤ 1000000000000000) : Calls Tryd.prog 64 #[.int .i64 a, .int .i64 b] w (Give (rV (divR a b)) w) := by
  by_cases hb0 : b = 0
  · subst hb0
    rw [show divR a 0 = diedR 2 by unfold divR; rw [if_pos rfl]]
    go_enter Tryd.func64, Tryd.ntmps64
    go_wp2_with fail
    refine (died_r 2 _).mono ?_
    rintro e w1 ⟨rfl, hx1⟩
    have t := hid (There.ext (There.newb w #[.int .i64 0, .int .i64 0, .string { data := #[] }, .int .i64 0] 70 (n := 4) (b := w.heap.size) (by simp) (by decide)) hx1)
    have c0_0_0 : w1.cell? ⟨w.heap.size, 0, none⟩ = some (.int .i64 0) := hx1.cell (by go_simp)
    have c0_0_1 : w1.cell? ⟨w.heap.size, 1, none⟩ = some (.int .i64 0) := hx1.cell (by go_simp)
    have c0_0_2 : w1.cell? ⟨w.heap.size, 2, none⟩ = some (.string { data := #[] }) := hx1.cell (by go_simp)
    have c0_0_3 : w1.cell? ⟨w.heap.size, 3, none⟩ = some (.int .i64 0) := hx1.cell (by go_simp)
    have hE := hid (Ext.trans ((Ext.refl w).alloc_right _) hx1)
    have lt_1 : w.heap.size < w1.heap.size := World.block_lt_of_cell? w1 _ c0_0_0
    clear hx1
    unfold rV
    have p0 := t.out.cell (o := 0) (by omega)
    have f0 := t.out.free (o := 0) (by omega)
    have p1 := t.out.cell (o := 1) (by omega)
    have f1 := t.out.free (o := 1) (by omega)
    have p2 := t.out.cell (o := 2) (by omega)
    have f2 := t.out.free (o := 2) (by omega)
    have p3 := t.out.cell (o := 3) (by omega)
    have f3 := t.out.free (o := 3) (by omega)
    have kk := hid (put4 t.out (.int .i64 (diedR 2).1) (.int .i64 (diedR 2).2.1) (.string (diedR 2).2.2.1) (.int .i64 (diedR 2).2.2.2))
    have Fin := hid ((((hE.out.set (p := ⟨w.heap.size, 0, none⟩) (show w.heap.size ≤ w.heap.size by omega) (.int .i64 (diedR 2).1)).set (p := ⟨w.heap.size, 1, none⟩) (show w.heap.size ≤ w.heap.size by omega) (.int .i64 (diedR 2).2.1)).set (p := ⟨w.heap.size, 2, none⟩) (show w.heap.size ≤ w.heap.size by omega) (.string (diedR 2).2.2.1)).set (p := ⟨w.heap.size, 3, none⟩) (show w.heap.size ≤ w.heap.size by omega) (.int .i64 (diedR 2).2.2.2))
    clear t
    clear c0_0_0 c0_0_1 c0_0_2 c0_0_3
    go_wp2
    obtain ⟨k0, k1, k2, k3⟩ := kk.out
    exact bodyPost_ret (v := .agg #[.int .i64 (diedR 2).1, .int .i64 (diedR 2).2.1, .string (diedR 2).2.2.1, .int .i64 (diedR 2).2.2.2]) (by simp [results, Tryd.results64, go_sem, k0, k1, k2, k3]) rfl ⟨rfl, Fin.out⟩
  · have db : (b == 0) = false := by simpa using hb0
    rw [show divR a b = numR (a.tdiv b) by unfold divR; rw [if_neg hb0]]
    have hq := div_in (a := a) (b := b) ha hb0
    have ew : IntKind.i64.wrap (a.tdiv b) = a.tdiv b := IntWalk.i64_in _ (by omega)
    have ew2 : wrap64 (a.tdiv b) = a.tdiv b := IntWalk.wrap64_in _ ⟨by omega, by omega⟩
    go_enter Tryd.func64, Tryd.ntmps64
    go_wp2_with fail
    refine (number_any (a.tdiv b) _).mono ?_
    rintro e w1 ⟨rfl, hx1⟩
    have t := hid (There.ext (There.newb w #[.int .i64 0, .int .i64 0, .string { data := #[] }, .int .i64 0] 70 (n := 4) (b := w.heap.size) (by simp) (by decide)) hx1)
    have c0_0_0 : w1.cell? ⟨w.heap.size, 0, none⟩ = some (.int .i64 0) := hx1.cell (by go_simp)
    have c0_0_1 : w1.cell? ⟨w.heap.size, 1, none⟩ = some (.int .i64 0) := hx1.cell (by go_simp)
    have c0_0_2 : w1.cell? ⟨w.heap.size, 2, none⟩ = some (.string { data := #[] }) := hx1.cell (by go_simp)
    have c0_0_3 : w1.cell? ⟨w.heap.size, 3, none⟩ = some (.int .i64 0) := hx1.cell (by go_simp)
    have hE := hid (Ext.trans ((Ext.refl w).alloc_right _) hx1)
    have lt_1 : w.heap.size < w1.heap.size := World.block_lt_of_cell? w1 _ c0_0_0
    clear hx1
    unfold rV
    have p0 := t.out.cell (o := 0) (by omega)
    have f0 := t.out.free (o := 0) (by omega)
    have p1 := t.out.cell (o := 1) (by omega)
    have f1 := t.out.free (o := 1) (by omega)
    have p2 := t.out.cell (o := 2) (by omega)
    have f2 := t.out.free (o := 2) (by omega)
    have p3 := t.out.cell (o := 3) (by omega)
    have f3 := t.out.free (o := 3) (by omega)
    have kk := hid (put4 t.out (.int .i64 (numR (a.tdiv b)).1) (.int .i64 (numR (a.tdiv b)).2.1) (.string (numR (a.tdiv b)).2.2.1) (.int .i64 (numR (a.tdiv b)).2.2.2))
    have Fin := hid ((((hE.out.set (p := ⟨w.heap.size, 0, none⟩) (show w.heap.size ≤ w.heap.size by omega) (.int .i64 (numR (a.tdiv b)).1)).set (p := ⟨w.heap.size, 1, none⟩) (show w.heap.size ≤ w.heap.size by omega) (.int .i64 (numR (a.tdiv b)).2.1)).set (p := ⟨w.heap.size, 2, none⟩) (show w.heap.size ≤ w.heap.size by omega) (.string (numR (a.tdiv b)).2.2.1)).set (p := ⟨w.heap.size, 3, none⟩) (show w.heap.size ≤ w.heap.size by omega) (.int .i64 (numR (a.tdiv b)).2.2.2))
    clear t
    clear c0_0_0 c0_0_1 c0_0_2 c0_0_3
    go_wp2
    obtain ⟨k0, k1, k2, k3⟩ := kk.out
    exact bodyPost_ret (v := .agg #[.int .i64 (numR (a.tdiv b)).1, .int .i64 (numR (a.tdiv b)).2.1, .string (numR (a.tdiv b)).2.2.1, .int .i64 (numR (a.tdiv b)).2.2.2]) (by simp [results, Tryd.results64, go_sem, k0, k1, k2, k3]) rfl ⟨rfl, Fin.out⟩
set_option maxRecDepth 100000 in
set_option maxHeartbeats 2000000 in
theorem mod_any (a b : Int) (w : World) (ha : -1000000000000000 ≤ a ∧ a ≤ 1000000000000000) (hb : -1000000000000000 ≤ b ∧ b ≤ 1000000000000000) : Calls Tryd.prog 65 #[.int .i64 a, .int .i64 b] w (Give (rV (modR a b)) w) := by
  by_cases hb0 : b = 0
  · subst hb0
    rw [show modR a 0 = diedR 2 by unfold modR; rw [if_pos rfl]]
    go_enter Tryd.func65, Tryd.ntmps65
    go_wp2_with fail
    refine (died_r 2 _).mono ?_
    rintro e w1 ⟨rfl, hx1⟩
    have t := hid (There.ext (There.newb w #[.int .i64 0, .int .i64 0, .string { data := #[] }, .int .i64 0] 70 (n := 4) (b := w.heap.size) (by simp) (by decide)) hx1)
    have c0_0_0 : w1.cell? ⟨w.heap.size, 0, none⟩ = some (.int .i64 0) := hx1.cell (by go_simp)
    have c0_0_1 : w1.cell? ⟨w.heap.size, 1, none⟩ = some (.int .i64 0) := hx1.cell (by go_simp)
    have c0_0_2 : w1.cell? ⟨w.heap.size, 2, none⟩ = some (.string { data := #[] }) := hx1.cell (by go_simp)
    have c0_0_3 : w1.cell? ⟨w.heap.size, 3, none⟩ = some (.int .i64 0) := hx1.cell (by go_simp)
    have hE := hid (Ext.trans ((Ext.refl w).alloc_right _) hx1)
    have lt_1 : w.heap.size < w1.heap.size := World.block_lt_of_cell? w1 _ c0_0_0
    clear hx1
    unfold rV
    have p0 := t.out.cell (o := 0) (by omega)
    have f0 := t.out.free (o := 0) (by omega)
    have p1 := t.out.cell (o := 1) (by omega)
    have f1 := t.out.free (o := 1) (by omega)
    have p2 := t.out.cell (o := 2) (by omega)
    have f2 := t.out.free (o := 2) (by omega)
    have p3 := t.out.cell (o := 3) (by omega)
    have f3 := t.out.free (o := 3) (by omega)
    have kk := hid (put4 t.out (.int .i64 (diedR 2).1) (.int .i64 (diedR 2).2.1) (.string (diedR 2).2.2.1) (.int .i64 (diedR 2).2.2.2))
    have Fin := hid ((((hE.out.set (p := ⟨w.heap.size, 0, none⟩) (show w.heap.size ≤ w.heap.size by omega) (.int .i64 (diedR 2).1)).set (p := ⟨w.heap.size, 1, none⟩) (show w.heap.size ≤ w.heap.size by omega) (.int .i64 (diedR 2).2.1)).set (p := ⟨w.heap.size, 2, none⟩) (show w.heap.size ≤ w.heap.size by omega) (.string (diedR 2).2.2.1)).set (p := ⟨w.heap.size, 3, none⟩) (show w.heap.size ≤ w.heap.size by omega) (.int .i64 (diedR 2).2.2.2))
    clear t
    clear c0_0_0 c0_0_1 c0_0_2 c0_0_3
    go_wp2
    obtain ⟨k0, k1, k2, k3⟩ := kk.out
    exact bodyPost_ret (v := .agg #[.int .i64 (diedR 2).1, .int .i64 (diedR 2).2.1, .string (diedR 2).2.2.1, .int .i64 (diedR 2).2.2.2]) (by simp [results, Tryd.results65, go_sem, k0, k1, k2, k3]) rfl ⟨rfl, Fin.out⟩
  · have db : (b == 0) = false := by simpa using hb0
    rw [show modR a b = numR (a.tmod b) by unfold modR; rw [if_neg hb0]]
    have hq := mod_in (a := a) (b := b) ha hb0
    have ew : IntKind.i64.wrap (a.tmod b) = a.tmod b := IntWalk.i64_in _ (by omega)
    have ew2 : wrap64 (a.tmod b) = a.tmod b := IntWalk.wrap64_in _ ⟨by omega, by omega⟩
    go_enter Tryd.func65, Tryd.ntmps65
    go_wp2_with fail
    refine (number_any (a.tmod b) _).mono ?_
    rintro e w1 ⟨rfl, hx1⟩
    have t := hid (There.ext (There.newb w #[.int .i64 0, .int .i64 0, .string { data := #[] }, .int .i64 0] 70 (n := 4) (b := w.heap.size) (by simp) (by decide)) hx1)
    have c0_0_0 : w1.cell? ⟨w.heap.size, 0, none⟩ = some (.int .i64 0) := hx1.cell (by go_simp)
    have c0_0_1 : w1.cell? ⟨w.heap.size, 1, none⟩ = some (.int .i64 0) := hx1.cell (by go_simp)
    have c0_0_2 : w1.cell? ⟨w.heap.size, 2, none⟩ = some (.string { data := #[] }) := hx1.cell (by go_simp)
    have c0_0_3 : w1.cell? ⟨w.heap.size, 3, none⟩ = some (.int .i64 0) := hx1.cell (by go_simp)
    have hE := hid (Ext.trans ((Ext.refl w).alloc_right _) hx1)
    have lt_1 : w.heap.size < w1.heap.size := World.block_lt_of_cell? w1 _ c0_0_0
    clear hx1
    unfold rV
    have p0 := t.out.cell (o := 0) (by omega)
    have f0 := t.out.free (o := 0) (by omega)
    have p1 := t.out.cell (o := 1) (by omega)
    have f1 := t.out.free (o := 1) (by omega)
    have p2 := t.out.cell (o := 2) (by omega)
    have f2 := t.out.free (o := 2) (by omega)
    have p3 := t.out.cell (o := 3) (by omega)
    have f3 := t.out.free (o := 3) (by omega)
    have kk := hid (put4 t.out (.int .i64 (numR (a.tmod b)).1) (.int .i64 (numR (a.tmod b)).2.1) (.string (numR (a.tmod b)).2.2.1) (.int .i64 (numR (a.tmod b)).2.2.2))
    have Fin := hid ((((hE.out.set (p := ⟨w.heap.size, 0, none⟩) (show w.heap.size ≤ w.heap.size by omega) (.int .i64 (numR (a.tmod b)).1)).set (p := ⟨w.heap.size, 1, none⟩) (show w.heap.size ≤ w.heap.size by omega) (.int .i64 (numR (a.tmod b)).2.1)).set (p := ⟨w.heap.size, 2, none⟩) (show w.heap.size ≤ w.heap.size by omega) (.string (numR (a.tmod b)).2.2.1)).set (p := ⟨w.heap.size, 3, none⟩) (show w.heap.size ≤ w.heap.size by omega) (.int .i64 (numR (a.tmod b)).2.2.2))
    clear t
    clear c0_0_0 c0_0_1 c0_0_2 c0_0_3
    go_wp2
    obtain ⟨k0, k1, k2, k3⟩ := kk.out
    exact bodyPost_ret (v := .agg #[.int .i64 (numR (a.tmod b)).1, .int .i64 (numR (a.tmod b)).2.1, .string (numR (a.tmod b)).2.2.1, .int .i64 (numR (a.tmod b)).2.2.2]) (by simp [results, Tryd.results65, go_sem, k0, k1, k2, k3]) rfl ⟨rfl, Fin.out⟩
theorem pair_under : Tryd.prog.underlying 90 = some (.array 2 3) := by kernel_rfl
theorem pair_guard : Tryd.prog.eqGuardType Tryd.prog.depth 90 = false := by kernel_rfl
theorem pair_info : (Tryd.prog.info? 3).map (fun i => i.size) = some 1 := by kernel_rfl
theorem pair_int : Tryd.prog.underlying 3 = some (.int .i64) := by kernel_rfl
theorem pair_cells : Tryd.prog.cellsOf 3 = 1 := by kernel_rfl
theorem pair_eq (w : World) (d : Nat) (a b c e : Int) : (Op.equalIn (d + 2) 90 (.agg #[.int .i64 a, .int .i64 b]) (.agg #[.int .i64 c, .int .i64 e])).run Tryd.prog w = .ok (a == c && b == e) w := by
  obtain ⟨i, hi, -⟩ := Option.map_eq_some_iff.1 pair_info
  rw [run_equalIn_array w (d + 1) _ _ pair_under hi, pair_cells]
  have p1 : ∀ (x y : Int) (w : World), (part 3 #[.int .i64 x, .int .i64 y] (0 * 1)).run Tryd.prog w = .ok (.int .i64 x) w := by intro x y w; go_simp
  have p2 : ∀ (x y : Int) (w : World), (part 3 #[.int .i64 x, .int .i64 y] (1 * 1)).run Tryd.prog w = .ok (.int .i64 y) w := by intro x y w; go_simp
  have q1 : ∀ (x y : Int) (w : World), (Op.equalIn (d + 1) 3 (.int .i64 x) (.int .i64 y)).run Tryd.prog w = .ok (x == y) w := fun x y w => run_equalIn_int w d 3 .i64 .i64 x y pair_int
  simp only [show List.range 2 = [0, 1] from rfl, Op.eqItems, Sem.run_bind, p1, p2, Result.andThen_ok, q1]
  by_cases h1 : a == c <;> by_cases h2 : b == e <;> simp_all
set_option maxRecDepth 100000 in
theorem kinds_any (k n : Int) (s : ByteArray) (k' n' : Int) (s' : ByteArray) (w : World) : Calls Tryd.prog 102 #[vV k n s, vV k' n' s'] w (Give (.agg #[.int .i64 k, .int .i64 k']) w) := by
  unfold vV
  go_enter Tryd.func102, Tryd.ntmps102
  go_wp2
  exact bodyPost_ret (v := .agg #[.int .i64 k, .int .i64 k']) (by simp [results, Tryd.results102, go_sem]) rfl ⟨rfl, (((Ext.refl w).alloc_right _).alloc_right _).alloc_right _⟩
end Go.Proofs.YtkjcfnmbnddhjaaDoor
