/-
  What the program gives of four things that the document tells (known).
-/
import Derived.Test.YtkjcfnmbnddhjaaDoorVa8
namespace Go.Proofs.YtkjcfnmbnddhjaaDoor
open Go.RowKit
set_option linter.unusedVariables false
set_option linter.unusedSimpArgs false
theorem k_sub : subR 4 0 { data := #[97, 98, 32, 32] } 4 0 { data := #[99] } = (4, 0, { data := #[97, 98, 99, 32, 32] }, 0) := by
  have h : subT { data := #[97, 98, 32, 32] } { data := #[99] } = { data := #[97, 98, 99, 32, 32] } := by
    unfold subT trimR
    rw [ByteArray.toList_eq]
    rfl
  unfold subR
  rw [h]
  rfl
theorem k_bd1 : Bd 4 0 { data := #[97, 98, 32, 32] } := ⟨by decide, by decide⟩
theorem k_bd2 : Bd 4 0 { data := #[99] } := ⟨by decide, by decide⟩
theorem known1 (w : World) : Calls Tryd.prog 17 #[.int .i64 1, vV 4 0 { data := #[97, 98, 32, 32] }, vV 4 0 { data := #[99] }] w (GiveD (4, 0, { data := #[97, 98, 99, 32, 32] }, 0) w) := by
  have h := DoSub_ok 4 0 { data := #[97, 98, 32, 32] } 4 0 { data := #[99] } w k_bd1 k_bd2 (by decide) (by decide)
  rw [k_sub] at h
  exact h
theorem known2 (w : World) : Calls Tryd.prog 22 #[.int .i64 2024, .int .i64 1, .int .i64 31] w (Give2 738916 0 w) := by
  have h := Days_any 2024 1 31 w
  have e1 : dayO 2024 1 31 = 738916 := by decide
  have e2 : dayE 2024 1 31 = 0 := by decide
  rw [e1, e2] at h
  exact h
theorem k_ok1 : okD 2024 1 31 := by unfold okD; decide
theorem k_ok2 : okD 2024 2 29 := by unfold okD; decide
theorem known3 (w : World) : Calls Tryd.prog 40 #[.int .i64 738916, .int .i64 1] w (Give2 738945 0 w) := by
  have h := Months_any 738916 1 w
  obtain ⟨a, b, c, d⟩ := sp_day k_ok1 (show dayS 2024 1 31 = 738916 by decide)
  have hk : mthK 738916 1 = 24289 := by unfold mthK; rw [a, b]; decide
  have e1 : mthO 738916 1 = 738945 := by unfold mthO; rw [hk, c]; decide
  have e2 : mthE 738916 1 = 0 := by unfold mthE; rw [hk, c]; decide
  rw [e1, e2] at h
  exact h
theorem known4 (w : World) : Calls Tryd.prog 24 #[.int .i64 738945] w (Give4 2024 2 29 0 w) := by
  have h := Split_any 738945 w
  obtain ⟨a, b, c, d⟩ := sp_day k_ok2 (show dayS 2024 2 29 = 738945 by decide)
  rw [a, b, c, d] at h
  exact h
set_option maxRecDepth 100000 in
set_option maxHeartbeats 2000000 in
theorem known_any (w : World) : Calls Tryd.prog 16 #[] w (Give (.bool true) w) := by
  go_enter Tryd.func16, Tryd.ntmps16
  go_wp2_with fail
  refine (Text_any _ _).mono ?_
  rintro e w1 ⟨rfl, hx1⟩
  unfold vV
  go_wp2_with fail
  refine (Text_any _ _).mono ?_
  rintro e w2 ⟨rfl, hx2⟩
  unfold vV
  go_wp2_with fail
  refine (known1 _).mono ?_
  rintro e w3 ⟨rfl, hx3⟩
  have hE := hid ((hx1.trans hx2).trans hx3)
  clear hx1 hx2 hx3
  go_wp2_with fail
  refine (known2 _).mono ?_
  rintro e w4 ⟨rfl, hx4⟩
  have c0 : w4.cell? ⟨w3.heap.size, 0, none⟩ = some (.int .i64 4) := hx4.cell (by go_simp)
  have c1 : w4.cell? ⟨w3.heap.size, 1, none⟩ = some (.int .i64 0) := hx4.cell (by go_simp)
  have c2 : w4.cell? ⟨w3.heap.size, 2, none⟩ = some (.string { data := #[97, 98, 99, 32, 32] }) := hx4.cell (by go_simp)
  have hE := hid ((hE.out.alloc_right _).trans hx4)
  clear hx4
  go_wp2_with fail
  refine (known3 _).mono ?_
  rintro e w5 ⟨rfl, hx5⟩
  replace c0 := hx5.cell c0
  replace c1 := hx5.cell c1
  replace c2 := hx5.cell c2
  have hE := hid (hE.out.trans hx5)
  clear hx5
  go_wp2_with fail
  refine (known4 _).mono ?_
  rintro e w6 ⟨rfl, hx6⟩
  replace c0 := hx6.cell c0
  replace c1 := hx6.cell c1
  replace c2 := hx6.cell c2
  have hE := hid (hE.out.trans hx6)
  clear hx6
  go_wp2
  go_ret
  exact ⟨rfl, hE.out⟩
end Go.Proofs.YtkjcfnmbnddhjaaDoor
