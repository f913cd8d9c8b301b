/-
  The law of quotients and remainders.
-/
import Derived.Test.YtkjcfnmbnddhjaaDoorVa9
import Derived.Test.YtkjcfnmbnddhjaaDoorVb3
import Derived.Test.YtkjcfnmbnddhjaaDoorVc1
namespace Go.Proofs.YtkjcfnmbnddhjaaDoor
open Go.RowKit
set_option linter.unusedVariables false
set_option linter.unusedSimpArgs false
theorem Num_any (n : Int) (w : World) : Calls Tryd.prog 20 #[.int .i64 n] w (Give (vV 2 n { data := #[] }) w) := by
  go_enter Tryd.func20, Tryd.ntmps20
  go_wp2
  exact bodyPost_ret (v := .agg #[.int .i64 2, .int .i64 n, .string { data := #[] }]) (by simp [results, Tryd.results20, go_sem]) rfl ⟨rfl, (Ext.refl w).alloc_right _⟩
theorem e_list : ({ data := #[] } : ByteArray).toList = [] := by rw [ByteArray.toList_eq]
theorem num_v {n : Int} (h : isNumB n = true) : Bd 2 n { data := #[] } := ⟨by rw [isV_2, h, e_list]; rfl, by decide⟩
theorem num_e {n : Int} (h : isNumB n = false) : valE 2 n { data := #[] } = 1 := by
  unfold valE
  rw [if_neg (by decide), isV_2, h]
  rfl
theorem div_facts {a b : Int} (hb : b ≠ 0) : b * a.tdiv b + a.tmod b = a ∧ (a.tmod b).natAbs < b.natAbs ∧ (0 ≤ a → 0 ≤ a.tmod b) ∧ (a ≤ 0 → a.tmod b ≤ 0) := by
  refine ⟨Int.mul_tdiv_add_tmod a b, ?_, fun h => Int.tmod_nonneg b h, fun h => ?_⟩
  · rw [Int.natAbs_tmod]
    exact Nat.mod_lt _ (by omega)
  · have := Int.tmod_nonneg (a := -a) b (by omega)
    rw [Int.neg_tmod] at this
    omega
theorem Dodiv_num {a b : Int} (w : World) (ha : isNumB a = true) (hb : isNumB b = true) : Calls Tryd.prog 17 #[.int .i64 3, vV 2 a { data := #[] }, vV 2 b { data := #[] }] w (GiveD (divR a b) w) := by
  have h := Dodiv_ok 2 a { data := #[] } 2 b { data := #[] } w (num_v ha) (num_v hb) (by decide) (by decide)
  rw [show wholeR divR 2 a 2 b = divR a b by unfold wholeR; rw [if_pos ⟨rfl, rfl⟩]] at h
  exact h
theorem Dodiv_bad {a b : Int} (w : World) (h : isNumB a = false ∨ isNumB b = false) : Calls Tryd.prog 17 #[.int .i64 3, vV 2 a { data := #[] }, vV 2 b { data := #[] }] w (GiveX 1 w) := by
  have hb : bothE 2 a { data := #[] } 2 b { data := #[] } = 1 := by
    unfold bothE
    rcases Bool.eq_false_or_eq_true (isNumB a) with q | q
    · rcases h with h | h
      · rw [h] at q; cases q
      · rw [bd_e (num_v q), if_neg (by simp), num_e h]
    · rw [num_e q, if_pos (by decide)]
  have h := Do_err 3 2 a { data := #[] } 2 b { data := #[] } w (by rw [hb]; decide)
  rw [hb] at h
  exact h
theorem Domod_num {a b : Int} (w : World) (ha : isNumB a = true) (hb : isNumB b = true) : Calls Tryd.prog 17 #[.int .i64 4, vV 2 a { data := #[] }, vV 2 b { data := #[] }] w (GiveD (modR a b) w) := by
  have h := Domod_ok 2 a { data := #[] } 2 b { data := #[] } w (num_v ha) (num_v hb) (by decide) (by decide)
  rw [show wholeR modR 2 a 2 b = modR a b by unfold wholeR; rw [if_pos ⟨rfl, rfl⟩]] at h
  exact h
theorem Domod_bad {a b : Int} (w : World) (h : isNumB a = false ∨ isNumB b = false) : Calls Tryd.prog 17 #[.int .i64 4, vV 2 a { data := #[] }, vV 2 b { data := #[] }] w (GiveX 1 w) := by
  have hb : bothE 2 a { data := #[] } 2 b { data := #[] } = 1 := by
    unfold bothE
    rcases Bool.eq_false_or_eq_true (isNumB a) with q | q
    · rcases h with h | h
      · rw [h] at q; cases q
      · rw [bd_e (num_v q), if_neg (by simp), num_e h]
    · rw [num_e q, if_pos (by decide)]
  have h := Do_err 4 2 a { data := #[] } 2 b { data := #[] } w (by rw [hb]; decide)
  rw [hb] at h
  exact h
set_option maxRecDepth 100000 in
set_option maxHeartbeats 8000000 in
theorem divides_law (a b : Int) (w : World) (_ : (Lit.int .i64 a).wf = true) (_ : (Lit.int .i64 b).wf = true) : Calls Tryd.prog 4 #[.int .i64 a, .int .i64 b] w (Give (.bool true) w) := by
  rcases Bool.eq_false_or_eq_true (isNumB a) with ha | ha
  rotate_left
  · go_enter Tryd.func4, Tryd.ntmps4
    go_wp2_with fail
    refine (Num_any a _).mono ?_
    rintro e w1 ⟨rfl, hx1⟩
    have hE := hid (Ext.trans (Ext.refl w) hx1)
    clear hx1
    unfold vV
    go_wp2_with fail
    refine (Num_any b _).mono ?_
    rintro e w2 ⟨rfl, hx2⟩
    replace hE := hid (Ext.trans hE.out hx2)
    clear hx2
    unfold vV
    go_wp2_with fail
    refine (Dodiv_bad _ (Or.inl ha)).mono ?_
    rintro e w3 ⟨rfl, hx3⟩
    replace hE := hid (Ext.trans hE.out hx3)
    clear hx3
    go_wp2_with fail
    refine (Num_any a _).mono ?_
    rintro e w4 ⟨rfl, hx4⟩
    have c3_0_0 : w4.cell? ⟨w3.heap.size, 0, none⟩ = some (.int .i64 0) := hx4.cell (by go_simp)
    have c3_0_1 : w4.cell? ⟨w3.heap.size, 1, none⟩ = some (.int .i64 0) := hx4.cell (by go_simp)
    have c3_0_2 : w4.cell? ⟨w3.heap.size, 2, none⟩ = some (.string ByteArray.empty) := hx4.cell (by go_simp)
    replace hE := hid (Ext.trans (hE.out.alloc_right _) hx4)
    have lt_1 : w3.heap.size < w4.heap.size := World.block_lt_of_cell? w4 _ c3_0_0
    clear hx4
    unfold vV
    go_wp2_with fail
    refine (Num_any b _).mono ?_
    rintro e w5 ⟨rfl, hx5⟩
    replace c3_0_0 := hx5.cell c3_0_0
    replace c3_0_1 := hx5.cell c3_0_1
    replace c3_0_2 := hx5.cell c3_0_2
    replace hE := hid (Ext.trans hE.out hx5)
    clear lt_1
    have lt_1 : w3.heap.size < w5.heap.size := World.block_lt_of_cell? w5 _ c3_0_0
    clear hx5
    unfold vV
    go_wp2_with fail
    refine (Domod_bad _ (Or.inl ha)).mono ?_
    rintro e w6 ⟨rfl, hx6⟩
    replace c3_0_0 := hx6.cell c3_0_0
    replace c3_0_1 := hx6.cell c3_0_1
    replace c3_0_2 := hx6.cell c3_0_2
    replace hE := hid (Ext.trans hE.out hx6)
    clear lt_1
    have lt_1 : w3.heap.size < w6.heap.size := World.block_lt_of_cell? w6 _ c3_0_0
    clear hx6
    go_wp2_with fail
    refine (rInNum_any _ _).mono ?_
    rintro e w' ⟨rfl, rfl⟩
    go_wp2_with fail
    refine (known_any _).mono ?_
    rintro e w7 ⟨rfl, hx7⟩
    replace c3_0_0 := hx7.cell (cell_alloc c3_0_0 _)
    replace c3_0_1 := hx7.cell (cell_alloc c3_0_1 _)
    replace c3_0_2 := hx7.cell (cell_alloc c3_0_2 _)
    have c6_0_0 : w7.cell? ⟨w6.heap.size, 0, none⟩ = some (.int .i64 0) := hx7.cell (by go_simp)
    have c6_0_1 : w7.cell? ⟨w6.heap.size, 1, none⟩ = some (.int .i64 0) := hx7.cell (by go_simp)
    have c6_0_2 : w7.cell? ⟨w6.heap.size, 2, none⟩ = some (.string ByteArray.empty) := hx7.cell (by go_simp)
    replace hE := hid (Ext.trans (hE.out.alloc_right _) hx7)
    clear lt_1
    have lt_1 : w3.heap.size < w7.heap.size := World.block_lt_of_cell? w7 _ c3_0_0
    have lt_2 : w6.heap.size < w7.heap.size := World.block_lt_of_cell? w7 _ c6_0_0
    clear hx7
    go_wp2
    go_ret
    exact ⟨rfl, hE.out⟩
  rcases Bool.eq_false_or_eq_true (isNumB b) with hb | hb
  rotate_left
  · go_enter Tryd.func4, Tryd.ntmps4
    go_wp2_with fail
    refine (Num_any a _).mono ?_
    rintro e w1 ⟨rfl, hx1⟩
    have hE := hid (Ext.trans (Ext.refl w) hx1)
    clear hx1
    unfold vV
    go_wp2_with fail
    refine (Num_any b _).mono ?_
    rintro e w2 ⟨rfl, hx2⟩
    replace hE := hid (Ext.trans hE.out hx2)
    clear hx2
    unfold vV
    go_wp2_with fail
    refine (Dodiv_bad _ (Or.inr hb)).mono ?_
    rintro e w3 ⟨rfl, hx3⟩
    replace hE := hid (Ext.trans hE.out hx3)
    clear hx3
    go_wp2_with fail
    refine (Num_any a _).mono ?_
    rintro e w4 ⟨rfl, hx4⟩
    have c3_0_0 : w4.cell? ⟨w3.heap.size, 0, none⟩ = some (.int .i64 0) := hx4.cell (by go_simp)
    have c3_0_1 : w4.cell? ⟨w3.heap.size, 1, none⟩ = some (.int .i64 0) := hx4.cell (by go_simp)
    have c3_0_2 : w4.cell? ⟨w3.heap.size, 2, none⟩ = some (.string ByteArray.empty) := hx4.cell (by go_simp)
    replace hE := hid (Ext.trans (hE.out.alloc_right _) hx4)
    have lt_1 : w3.heap.size < w4.heap.size := World.block_lt_of_cell? w4 _ c3_0_0
    clear hx4
    unfold vV
    go_wp2_with fail
    refine (Num_any b _).mono ?_
    rintro e w5 ⟨rfl, hx5⟩
    replace c3_0_0 := hx5.cell c3_0_0
    replace c3_0_1 := hx5.cell c3_0_1
    replace c3_0_2 := hx5.cell c3_0_2
    replace hE := hid (Ext.trans hE.out hx5)
    clear lt_1
    have lt_1 : w3.heap.size < w5.heap.size := World.block_lt_of_cell? w5 _ c3_0_0
    clear hx5
    unfold vV
    go_wp2_with fail
    refine (Domod_bad _ (Or.inr hb)).mono ?_
    rintro e w6 ⟨rfl, hx6⟩
    replace c3_0_0 := hx6.cell c3_0_0
    replace c3_0_1 := hx6.cell c3_0_1
    replace c3_0_2 := hx6.cell c3_0_2
    replace hE := hid (Ext.trans hE.out hx6)
    clear lt_1
    have lt_1 : w3.heap.size < w6.heap.size := World.block_lt_of_cell? w6 _ c3_0_0
    clear hx6
    go_wp2_with fail
    refine (rInNum_any _ _).mono ?_
    rintro e w' ⟨rfl, rfl⟩
    go_wp2_with fail
    refine (rInNum_any _ _).mono ?_
    rintro e w' ⟨rfl, rfl⟩
    go_wp2_with fail
    refine (known_any _).mono ?_
    rintro e w7 ⟨rfl, hx7⟩
    replace c3_0_0 := hx7.cell (cell_alloc c3_0_0 _)
    replace c3_0_1 := hx7.cell (cell_alloc c3_0_1 _)
    replace c3_0_2 := hx7.cell (cell_alloc c3_0_2 _)
    have c6_0_0 : w7.cell? ⟨w6.heap.size, 0, none⟩ = some (.int .i64 0) := hx7.cell (by go_simp)
    have c6_0_1 : w7.cell? ⟨w6.heap.size, 1, none⟩ = some (.int .i64 0) := hx7.cell (by go_simp)
    have c6_0_2 : w7.cell? ⟨w6.heap.size, 2, none⟩ = some (.string ByteArray.empty) := hx7.cell (by go_simp)
    replace hE := hid (Ext.trans (hE.out.alloc_right _) hx7)
    clear lt_1
    have lt_1 : w3.heap.size < w7.heap.size := World.block_lt_of_cell? w7 _ c3_0_0
    have lt_2 : w6.heap.size < w7.heap.size := World.block_lt_of_cell? w7 _ c6_0_0
    clear hx7
    go_wp2
    go_ret
    exact ⟨rfl, hE.out⟩
  by_cases b0 : b = 0
  · subst b0
    have c1 : ∀ w, Calls Tryd.prog 17 #[.int .i64 3, vV 2 a { data := #[] }, vV 2 0 { data := #[] }] w (GiveD (diedR 2) w) := fun w => by have h := Dodiv_num w ha hb; rwa [show divR a 0 = diedR 2 by unfold divR; rw [if_pos rfl]] at h
    have c2 : ∀ w, Calls Tryd.prog 17 #[.int .i64 4, vV 2 a { data := #[] }, vV 2 0 { data := #[] }] w (GiveD (diedR 2) w) := fun w => by have h := Domod_num w ha hb; rwa [show modR a 0 = diedR 2 by unfold modR; rw [if_pos rfl]] at h
    have c1 := hid c1
    have c2 := hid c2
    go_enter Tryd.func4, Tryd.ntmps4
    go_wp2_with fail
    refine (Num_any a _).mono ?_
    rintro e w1 ⟨rfl, hx1⟩
    have hE := hid (Ext.trans (Ext.refl w) hx1)
    clear hx1
    unfold vV
    go_wp2_with fail
    refine (Num_any 0 _).mono ?_
    rintro e w2 ⟨rfl, hx2⟩
    replace hE := hid (Ext.trans hE.out hx2)
    clear hx2
    unfold vV
    go_wp2_with fail
    refine (c1.out _).mono ?_
    rintro e w3 ⟨rfl, hx3⟩
    replace hE := hid (Ext.trans hE.out hx3)
    clear hx3
    unfold diedR
    go_wp2_with fail
    refine (Num_any a _).mono ?_
    rintro e w4 ⟨rfl, hx4⟩
    have c3_0_0 : w4.cell? ⟨w3.heap.size, 0, none⟩ = some (.int .i64 0) := hx4.cell (by go_simp)
    have c3_0_1 : w4.cell? ⟨w3.heap.size, 1, none⟩ = some (.int .i64 0) := hx4.cell (by go_simp)
    have c3_0_2 : w4.cell? ⟨w3.heap.size, 2, none⟩ = some (.string ByteArray.empty) := hx4.cell (by go_simp)
    replace hE := hid (Ext.trans (hE.out.alloc_right _) hx4)
    have lt_1 : w3.heap.size < w4.heap.size := World.block_lt_of_cell? w4 _ c3_0_0
    clear hx4
    unfold vV
    go_wp2_with fail
    refine (Num_any 0 _).mono ?_
    rintro e w5 ⟨rfl, hx5⟩
    replace c3_0_0 := hx5.cell c3_0_0
    replace c3_0_1 := hx5.cell c3_0_1
    replace c3_0_2 := hx5.cell c3_0_2
    replace hE := hid (Ext.trans hE.out hx5)
    clear lt_1
    have lt_1 : w3.heap.size < w5.heap.size := World.block_lt_of_cell? w5 _ c3_0_0
    clear hx5
    unfold vV
    go_wp2_with fail
    refine (c2.out _).mono ?_
    rintro e w6 ⟨rfl, hx6⟩
    replace c3_0_0 := hx6.cell c3_0_0
    replace c3_0_1 := hx6.cell c3_0_1
    replace c3_0_2 := hx6.cell c3_0_2
    replace hE := hid (Ext.trans hE.out hx6)
    clear lt_1
    have lt_1 : w3.heap.size < w6.heap.size := World.block_lt_of_cell? w6 _ c3_0_0
    clear hx6
    unfold diedR
    go_wp2_with fail
    refine (rInNum_any _ _).mono ?_
    rintro e w' ⟨rfl, rfl⟩
    go_wp2_with fail
    refine (rInNum_any _ _).mono ?_
    rintro e w' ⟨rfl, rfl⟩
    go_wp2_with fail
    refine (known_any _).mono ?_
    rintro e w7 ⟨rfl, hx7⟩
    replace c3_0_0 := hx7.cell (cell_alloc c3_0_0 _)
    replace c3_0_1 := hx7.cell (cell_alloc c3_0_1 _)
    replace c3_0_2 := hx7.cell (cell_alloc c3_0_2 _)
    have c6_0_0 : w7.cell? ⟨w6.heap.size, 0, none⟩ = some (.int .i64 0) := hx7.cell (by go_simp)
    have c6_0_1 : w7.cell? ⟨w6.heap.size, 1, none⟩ = some (.int .i64 0) := hx7.cell (by go_simp)
    have c6_0_2 : w7.cell? ⟨w6.heap.size, 2, none⟩ = some (.string ByteArray.empty) := hx7.cell (by go_simp)
    replace hE := hid (Ext.trans (hE.out.alloc_right _) hx7)
    clear lt_1
    have lt_1 : w3.heap.size < w7.heap.size := World.block_lt_of_cell? w7 _ c3_0_0
    have lt_2 : w6.heap.size < w7.heap.size := World.block_lt_of_cell? w7 _ c6_0_0
    clear hx7
    go_wp2
    go_ret
    exact ⟨rfl, hE.out⟩
  have hia := isNum_iff.1 ha
  have hib := isNum_iff.1 hb
  obtain ⟨hq, hlt, hp, hn⟩ := div_facts (a := a) b0
  have hqi := div_in (b := b) hia b0
  have hri := mod_in (b := b) hia b0
  have c1 : ∀ w, Calls Tryd.prog 17 #[.int .i64 3, vV 2 a { data := #[] }, vV 2 b { data := #[] }] w (GiveD (2, a.tdiv b, { data := #[] }, 0) w) := fun w => by have h := Dodiv_num w ha hb; rwa [show divR a b = (2, a.tdiv b, { data := #[] }, 0) by unfold divR; rw [if_neg b0, num_t (isNum_iff.2 hqi)]; rfl] at h
  have c2 : ∀ w, Calls Tryd.prog 17 #[.int .i64 4, vV 2 a { data := #[] }, vV 2 b { data := #[] }] w (GiveD (2, a.tmod b, { data := #[] }, 0) w) := fun w => by have h := Domod_num w ha hb; rwa [show modR a b = (2, a.tmod b, { data := #[] }, 0) by unfold modR; rw [if_neg b0, num_t (isNum_iff.2 hri)]; rfl] at h
  generalize a.tdiv b = q at *
  generalize a.tmod b = r at *
  have c1 := hid c1
  have c2 := hid c2
  have hq := hid hq
  have ewm : IntKind.i64.wrap (b * q) = b * q := IntWalk.i64_in _ (by have := hq.out; omega)
  have ewa : IntKind.i64.wrap (b * q + r) = a := by rw [hq.out]; exact IntWalk.i64_in _ (by omega)
  have hsum : (b * q + r == a) = true := by rw [hq.out]; simp
  have db : (b == 0) = false := by simpa using b0
  have hsr : (r = 0) ∨ (0 < r ∧ 0 ≤ a) ∨ (r < 0 ∧ a < 0) := by omega
  clear hp hn
  have hrlt : r.natAbs < b.natAbs := hlt
  clear hlt
  rcases hsr with h | ⟨h, h'⟩ | ⟨h, h'⟩ <;> rcases Int.lt_or_gt_of_ne b0 with g | g
  all_goals
    have l1 : 0 < b ∨ b < 0 := by omega
    clear l1
    go_enter Tryd.func4, Tryd.ntmps4
    go_wp2_with fail
    refine (Num_any a _).mono ?_
    rintro e w1 ⟨rfl, hx1⟩
    have hE := hid (Ext.trans (Ext.refl w) hx1)
    clear hx1
    unfold vV
    go_wp2_with fail
    refine (Num_any b _).mono ?_
    rintro e w2 ⟨rfl, hx2⟩
    replace hE := hid (Ext.trans hE.out hx2)
    clear hx2
    unfold vV
    go_wp2_with fail
    refine (c1.out _).mono ?_
    rintro e w3 ⟨rfl, hx3⟩
    replace hE := hid (Ext.trans hE.out hx3)
    clear hx3
    go_wp2_with fail
    refine (Num_any a _).mono ?_
    rintro e w4 ⟨rfl, hx4⟩
    have c3_0_0 : w4.cell? ⟨w3.heap.size, 0, none⟩ = some (.int .i64 2) := hx4.cell (by go_simp)
    have c3_0_1 : w4.cell? ⟨w3.heap.size, 1, none⟩ = some (.int .i64 q) := hx4.cell (by go_simp)
    have c3_0_2 : w4.cell? ⟨w3.heap.size, 2, none⟩ = some (.string { data := #[] }) := hx4.cell (by go_simp)
    replace hE := hid (Ext.trans (hE.out.alloc_right _) hx4)
    have lt_1 : w3.heap.size < w4.heap.size := World.block_lt_of_cell? w4 _ c3_0_0
    clear hx4
    unfold vV
    go_wp2_with fail
    refine (Num_any b _).mono ?_
    rintro e w5 ⟨rfl, hx5⟩
    replace c3_0_0 := hx5.cell c3_0_0
    replace c3_0_1 := hx5.cell c3_0_1
    replace c3_0_2 := hx5.cell c3_0_2
    replace hE := hid (Ext.trans hE.out hx5)
    clear lt_1
    have lt_1 : w3.heap.size < w5.heap.size := World.block_lt_of_cell? w5 _ c3_0_0
    clear hx5
    unfold vV
    go_wp2_with fail
    refine (c2.out _).mono ?_
    rintro e w6 ⟨rfl, hx6⟩
    replace c3_0_0 := hx6.cell c3_0_0
    replace c3_0_1 := hx6.cell c3_0_1
    replace c3_0_2 := hx6.cell c3_0_2
    replace hE := hid (Ext.trans hE.out hx6)
    clear lt_1
    have lt_1 : w3.heap.size < w6.heap.size := World.block_lt_of_cell? w6 _ c3_0_0
    clear hx6
    go_wp2_with fail
    refine (rInNum_any _ _).mono ?_
    rintro e w' ⟨rfl, rfl⟩
    go_wp2_with fail
    refine (rInNum_any _ _).mono ?_
    rintro e w' ⟨rfl, rfl⟩
    go_wp2_with fail
    refine (known_any _).mono ?_
    rintro e w7 ⟨rfl, hx7⟩
    have hE2 := hid (Ext.trans (hE.out.alloc_right _) hx7)
    go_wp2
    go_ret
    exact ⟨rfl, hE2.out⟩
end Go.Proofs.YtkjcfnmbnddhjaaDoor
