/-
  What an operation of two values gives: the difference.
-/
import Derived.Test.YtkjcfnmbnddhjaaDoorVa7
import Derived.Deep.DeepCutAuto
import Derived.Deep.DrawnRows
import Derived.Laws.EntriesVeiled
import Derived.Deep.RegionHeld3
namespace Go.Proofs.YtkjcfnmbnddhjaaDoor
open Go.RowKit
attribute [local go_sem ↓] Go.wp_at_zero Go.wp_at_succ
set_option linter.unusedVariables false
set_option linter.unusedSimpArgs false
set_option maxRecDepth 100000 in
theorem whole_any (f : Nat) (w : World) : Calls Tryd.prog 62 #[.func (.func f) #[] #[]] w fun e w' => e = .returned (.func (.func 107) #[] #[.pointer (some ⟨w.heap.size, 0, none⟩)]) ∧ w' = w.alloc (.cells #[.func (.func f) #[] #[]] 67) := by
  go_enter Tryd.func62, Tryd.ntmps62
  go_wp2
  go_ret
  exact ⟨rfl, rfl⟩
def GiveD (r : Res) (w : World) (e : Ending) (w' : World) : Prop := e = .returned (.tuple #[.agg #[.int .i64 r.1, .int .i64 r.2.1, .string r.2.2.1], .int .i64 r.2.2.2, .int .i64 0]) ∧ Ext w w'
theorem bd_e {k n : Int} {s : ByteArray} (h : Bd k n s) : valE k n s = 0 := by unfold valE; rw [if_neg (by have := h.2; omega), if_pos h.1]
theorem bd_both {k n k' n' : Int} {s s' : ByteArray} (h : Bd k n s) (h' : Bd k' n' s') : bothE k n s k' n' s' = 0 := by unfold bothE; rw [bd_e h, bd_e h']; rfl
set_option maxRecDepth 100000 in
set_option maxHeartbeats 4000000 in
theorem DoSub_ok (k n : Int) (s : ByteArray) (k' n' : Int) (s' : ByteArray) (w : World) (h1 : Bd k n s) (h2 : Bd k' n' s') (hk : k ≠ 0) (hk' : k' ≠ 0) : Calls Tryd.prog 17 #[.int .i64 1, vV k n s, vV k' n' s'] w (GiveD (subR k n s k' n' s') w) := by
  have hb := bd_both h1 h2
  have d1 : (k == 0) = false := by simpa using hk
  have d2 : (k' == 0) = false := by simpa using hk'
  clear hk hk'
  unfold vV
  go_enter Tryd.func17, Tryd.ntmps17
  go_wp2_with fail
  refine (both_any k n s k' n' s' _).mono ?_
  rintro e w1 ⟨rfl, hx1⟩
  have t := hid (There.ext (There.newb ((w.alloc (.cells #[.int .i64 k, .int .i64 n, .string s] 23)).alloc (.cells #[.int .i64 k', .int .i64 n', .string s'] 23)) #[.int .i64 0, .int .i64 0, .string { data := #[] }] 23 (n := 3) (b := w.heap.size + 1 + 1) (by simp) (by decide)) hx1)
  have c0_0_0 : w1.cell? ⟨w.heap.size, 0, none⟩ = some (.int .i64 k) := hx1.cell (by go_simp)
  have c0_0_1 : w1.cell? ⟨w.heap.size, 1, none⟩ = some (.int .i64 n) := hx1.cell (by go_simp)
  have c0_0_2 : w1.cell? ⟨w.heap.size, 2, none⟩ = some (.string s) := hx1.cell (by go_simp)
  have c0_1_0 : w1.cell? ⟨w.heap.size + 1, 0, none⟩ = some (.int .i64 k') := hx1.cell (by go_simp)
  have c0_1_1 : w1.cell? ⟨w.heap.size + 1, 1, none⟩ = some (.int .i64 n') := hx1.cell (by go_simp)
  have c0_1_2 : w1.cell? ⟨w.heap.size + 1, 2, none⟩ = some (.string s') := hx1.cell (by go_simp)
  have c0_2_0 : w1.cell? ⟨w.heap.size + 1 + 1, 0, none⟩ = some (.int .i64 0) := hx1.cell (by go_simp)
  have c0_2_1 : w1.cell? ⟨w.heap.size + 1 + 1, 1, none⟩ = some (.int .i64 0) := hx1.cell (by go_simp)
  have c0_2_2 : w1.cell? ⟨w.heap.size + 1 + 1, 2, none⟩ = some (.string { data := #[] }) := hx1.cell (by go_simp)
  have hE := hid (Ext.trans ((((Ext.refl w).alloc_right _).alloc_right _).alloc_right _) hx1)
  have lt_1 : w.heap.size < w1.heap.size := World.block_lt_of_cell? w1 _ c0_0_0
  have lt_2 : w.heap.size + 1 < w1.heap.size := World.block_lt_of_cell? w1 _ c0_1_0
  have lt_3 : w.heap.size + 1 + 1 < w1.heap.size := World.block_lt_of_cell? w1 _ c0_2_0
  clear hx1
  rw [hb]
  go_wp2_with fail
  refine (whole_any _ _).mono ?_
  rintro e w' ⟨rfl, rfl⟩
  go_wp2_with fail
  refine (whole_any _ _).mono ?_
  rintro e w' ⟨rfl, rfl⟩
  go_wp2_with fail
  refine (whole_any _ _).mono ?_
  rintro e w' ⟨rfl, rfl⟩
  go_wp2_with fail
  refine (whole_any _ _).mono ?_
  rintro e w' ⟨rfl, rfl⟩
  go_upto_region 5 with fail
  generalize hw2 : (((((w1.alloc (.cells #[.func (.func 63) #[] #[]] 67)).alloc (.cells #[.func (.func 64) #[] #[]] 67)).alloc (.cells #[.func (.func 65) #[] #[]] 67)).alloc (.cells #[.func (.func 66) #[] #[]] 67)).alloc (.cells #[.func (.func 60) #[] #[], .func (.func 61) #[] #[], .func (.func 107) #[] #[.pointer (some ⟨w1.heap.size, 0, none⟩)], .func (.func 107) #[] #[.pointer (some ⟨w1.heap.size + 1, 0, none⟩)], .func (.func 107) #[] #[.pointer (some ⟨w1.heap.size + 1 + 1, 0, none⟩)], .func (.func 107) #[] #[.pointer (some ⟨w1.heap.size + 1 + 1 + 1, 0, none⟩)]] 68)) = w2
  have hx2 : Ext (((((w1.alloc (.cells #[.func (.func 63) #[] #[]] 67)).alloc (.cells #[.func (.func 64) #[] #[]] 67)).alloc (.cells #[.func (.func 65) #[] #[]] 67)).alloc (.cells #[.func (.func 66) #[] #[]] 67)).alloc (.cells #[.func (.func 60) #[] #[], .func (.func 61) #[] #[], .func (.func 107) #[] #[.pointer (some ⟨w1.heap.size, 0, none⟩)], .func (.func 107) #[] #[.pointer (some ⟨w1.heap.size + 1, 0, none⟩)], .func (.func 107) #[] #[.pointer (some ⟨w1.heap.size + 1 + 1, 0, none⟩)], .func (.func 107) #[] #[.pointer (some ⟨w1.heap.size + 1 + 1 + 1, 0, none⟩)]] 68)) w2 := by rw [hw2]; exact Ext.refl _
  clear hw2
  replace t := hid (There.ext (There.ext (There.ext (There.ext (There.ext (There.ext t.out ((Ext.refl _).alloc_right _)) ((Ext.refl _).alloc_right _)) ((Ext.refl _).alloc_right _)) ((Ext.refl _).alloc_right _)) ((Ext.refl _).alloc_right _)) hx2)
  replace c0_0_0 := hx2.cell (cell_alloc (cell_alloc (cell_alloc (cell_alloc (cell_alloc c0_0_0 _) _) _) _) _)
  replace c0_0_1 := hx2.cell (cell_alloc (cell_alloc (cell_alloc (cell_alloc (cell_alloc c0_0_1 _) _) _) _) _)
  replace c0_0_2 := hx2.cell (cell_alloc (cell_alloc (cell_alloc (cell_alloc (cell_alloc c0_0_2 _) _) _) _) _)
  replace c0_1_0 := hx2.cell (cell_alloc (cell_alloc (cell_alloc (cell_alloc (cell_alloc c0_1_0 _) _) _) _) _)
  replace c0_1_1 := hx2.cell (cell_alloc (cell_alloc (cell_alloc (cell_alloc (cell_alloc c0_1_1 _) _) _) _) _)
  replace c0_1_2 := hx2.cell (cell_alloc (cell_alloc (cell_alloc (cell_alloc (cell_alloc c0_1_2 _) _) _) _) _)
  replace c0_2_0 := hx2.cell (cell_alloc (cell_alloc (cell_alloc (cell_alloc (cell_alloc c0_2_0 _) _) _) _) _)
  replace c0_2_1 := hx2.cell (cell_alloc (cell_alloc (cell_alloc (cell_alloc (cell_alloc c0_2_1 _) _) _) _) _)
  replace c0_2_2 := hx2.cell (cell_alloc (cell_alloc (cell_alloc (cell_alloc (cell_alloc c0_2_2 _) _) _) _) _)
  have c1_0_0 : w2.cell? ⟨w1.heap.size, 0, none⟩ = some (.func (.func 63) #[] #[]) := hx2.cell (by go_simp)
  have c1_1_0 : w2.cell? ⟨w1.heap.size + 1, 0, none⟩ = some (.func (.func 64) #[] #[]) := hx2.cell (by go_simp)
  have c1_2_0 : w2.cell? ⟨w1.heap.size + 1 + 1, 0, none⟩ = some (.func (.func 65) #[] #[]) := hx2.cell (by go_simp)
  have c1_3_0 : w2.cell? ⟨w1.heap.size + 1 + 1 + 1, 0, none⟩ = some (.func (.func 66) #[] #[]) := hx2.cell (by go_simp)
  have c1_4_0 : w2.cell? ⟨w1.heap.size + 1 + 1 + 1 + 1, 0, none⟩ = some (.func (.func 60) #[] #[]) := hx2.cell (by go_simp)
  have c1_4_1 : w2.cell? ⟨w1.heap.size + 1 + 1 + 1 + 1, 1, none⟩ = some (.func (.func 61) #[] #[]) := hx2.cell (by go_simp)
  have c1_4_2 : w2.cell? ⟨w1.heap.size + 1 + 1 + 1 + 1, 2, none⟩ = some (.func (.func 107) #[] #[.pointer (some ⟨w1.heap.size, 0, none⟩)]) := hx2.cell (by go_simp)
  have c1_4_3 : w2.cell? ⟨w1.heap.size + 1 + 1 + 1 + 1, 3, none⟩ = some (.func (.func 107) #[] #[.pointer (some ⟨w1.heap.size + 1, 0, none⟩)]) := hx2.cell (by go_simp)
  have c1_4_4 : w2.cell? ⟨w1.heap.size + 1 + 1 + 1 + 1, 4, none⟩ = some (.func (.func 107) #[] #[.pointer (some ⟨w1.heap.size + 1 + 1, 0, none⟩)]) := hx2.cell (by go_simp)
  have c1_4_5 : w2.cell? ⟨w1.heap.size + 1 + 1 + 1 + 1, 5, none⟩ = some (.func (.func 107) #[] #[.pointer (some ⟨w1.heap.size + 1 + 1 + 1, 0, none⟩)]) := hx2.cell (by go_simp)
  replace hE := hid (Ext.trans (((((hE.out.alloc_right _).alloc_right _).alloc_right _).alloc_right _).alloc_right _) hx2)
  clear lt_1
  have lt_1 : w.heap.size < w2.heap.size := World.block_lt_of_cell? w2 _ c0_0_0
  clear lt_2
  have lt_2 : w.heap.size + 1 < w2.heap.size := World.block_lt_of_cell? w2 _ c0_1_0
  clear lt_3
  have lt_3 : w.heap.size + 1 + 1 < w2.heap.size := World.block_lt_of_cell? w2 _ c0_2_0
  have lt_4 : w1.heap.size < w2.heap.size := World.block_lt_of_cell? w2 _ c1_0_0
  have lt_5 : w1.heap.size + 1 < w2.heap.size := World.block_lt_of_cell? w2 _ c1_1_0
  have lt_6 : w1.heap.size + 1 + 1 < w2.heap.size := World.block_lt_of_cell? w2 _ c1_2_0
  have lt_7 : w1.heap.size + 1 + 1 + 1 < w2.heap.size := World.block_lt_of_cell? w2 _ c1_3_0
  have lt_8 : w1.heap.size + 1 + 1 + 1 + 1 < w2.heap.size := World.block_lt_of_cell? w2 _ c1_4_0
  clear hx2
  clear c1_0_0 c1_1_0 c1_2_0 c1_3_0 c1_4_0 c1_4_2 c1_4_3 c1_4_4 c1_4_5 c0_2_0 c0_2_1 c0_2_2
  go_upto_region 9 with fail
  go_cut [11] (fun a wx => ∃ g : Nat, a = .pointer (some ⟨g, 0, none⟩) ∧ (wx.cell? ⟨g, 0, none⟩ = some (.int .i64 (subR k n s k' n' s').1) ∧ wx.cell? ⟨g, 1, none⟩ = some (.int .i64 (subR k n s k' n' s').2.1) ∧ wx.cell? ⟨g, 2, none⟩ = some (.string (subR k n s k' n' s').2.2.1) ∧ wx.cell? ⟨g, 3, none⟩ = some (.int .i64 (subR k n s k' n' s').2.2.2)) ∧ g ≠ w.heap.size + 1 + 1 ∧ Hid (There wx (w.heap.size + 1 + 1) 3) ∧ Hid (Ext w wx))
  case first =>
    have HS : Hid (∀ w', Ext w2 w' → (w'.cell? ⟨w.heap.size, 0, none⟩ = some (.int .i64 k) ∧ w'.cell? ⟨w.heap.size, 1, none⟩ = some (.int .i64 n) ∧ w'.cell? ⟨w.heap.size, 2, none⟩ = some (.string s) ∧ w'.cell? ⟨w.heap.size + 1, 0, none⟩ = some (.int .i64 k') ∧ w'.cell? ⟨w.heap.size + 1, 1, none⟩ = some (.int .i64 n') ∧ w'.cell? ⟨w.heap.size + 1, 2, none⟩ = some (.string s') ∧ w'.cell? ⟨w1.heap.size + 1 + 1 + 1 + 1, 1, none⟩ = some (.func (.func 61) #[] #[]) ∧ Ext w2 w')) := fun w' hx => ⟨hx.cell c0_0_0, hx.cell c0_0_1, hx.cell c0_0_2, hx.cell c0_1_0, hx.cell c0_1_1, hx.cell c0_1_2, hx.cell c1_4_1, hx⟩
    have I := hid (HS.out w2.drew (Ext.refl w2).drew_right)
    clear c0_0_0 c0_0_1 c0_0_2 c0_1_0 c0_1_1 c0_1_2 c1_4_1
    have z2 := hid (Nat.le_refl w2.heap.size)
    go_region_held3 (fun w' => w'.cell? ⟨w.heap.size, 0, none⟩ = some (.int .i64 k) ∧ w'.cell? ⟨w.heap.size, 1, none⟩ = some (.int .i64 n) ∧ w'.cell? ⟨w.heap.size, 2, none⟩ = some (.string s) ∧ w'.cell? ⟨w.heap.size + 1, 0, none⟩ = some (.int .i64 k') ∧ w'.cell? ⟨w.heap.size + 1, 1, none⟩ = some (.int .i64 n') ∧ w'.cell? ⟨w.heap.size + 1, 2, none⟩ = some (.string s') ∧ w'.cell? ⟨w1.heap.size + 1 + 1 + 1 + 1, 1, none⟩ = some (.func (.func 61) #[] #[]) ∧ Ext w2 w')
      ((first | exact I.out | (go_split_ands; exact HS.out _ (Ext.alloc_right (by assumption) _)) | (go_split_ands; exact HS.out _ (Ext.trans (by assumption) hx3)) | (go_split_ands; exact HS.out _ (Ext.alloc_right (Ext.trans ((Ext.refl w2).drew_right) hx3) _)) | (go_split_ands; exact HS.out _ (Ext.set (Ext.set (Ext.set (Ext.set (by assumption) (by exact Nat.le_refl _) _) (by exact Nat.le_refl _) _) (by exact Nat.le_refl _) _) (by exact Nat.le_refl _) _))))
      ((first | (go_at_call 61; go_split_ands; refine (sub_any k n s k' n' s' _ h1 h2).mono ?_; rintro e w3 ⟨rfl, hx3⟩; unfold rV; (first | (have T3 := There.ext (There.newb w2.drew #[.int .i64 0, .int .i64 0, .string { data := #[] }, .int .i64 0] 70 (n := 4) (b := w2.heap.size) (by simp) (by decide)) hx3; have pg0 := T3.cell (o := 0) (by omega); have pg1 := T3.cell (o := 1) (by omega); have pg2 := T3.cell (o := 2) (by omega); have pg3 := T3.cell (o := 3) (by omega); have fg0 := T3.free (o := 0) (by omega); have fg1 := T3.free (o := 1) (by omega); have fg2 := T3.free (o := 2) (by omega); have fg3 := T3.free (o := 3) (by omega); have T3 := hid T3) | skip))))
    · go_wp2_with fail
      go_meet
      have hy : Ext w2 (w3.alloc (.cells #[.int .i64 (subR k n s k' n' s').1, .int .i64 (subR k n s k' n' s').2.1, .string (subR k n s k' n' s').2.2.1, .int .i64 (subR k n s k' n' s').2.2.2] 70)) := Ext.alloc_right (Ext.trans ((Ext.refl w2).drew_right) hx3) _
      have hsz : w2.heap.size ≤ w3.heap.size := hx3.size
      exact ⟨_, rfl, ⟨by go_simp, by go_simp, by go_simp, by go_simp⟩, by omega, There.ext t.out hy, Ext.trans hE.out hy⟩
    · go_wp2_with fail
      go_meet
      have hy0 : Ext w2 w3 := Ext.trans (((Ext.refl w2).drew_right).alloc_right _) hx3
      have hy := Ext.set (Ext.set (Ext.set (Ext.set hy0 (p := ⟨w2.heap.size, 0, none⟩) (Nat.le_refl _) (.int .i64 (subR k n s k' n' s').1)) (p := ⟨w2.heap.size, 1, none⟩) (Nat.le_refl _) (.int .i64 (subR k n s k' n' s').2.1)) (p := ⟨w2.heap.size, 2, none⟩) (Nat.le_refl _) (.string (subR k n s k' n' s').2.2.1)) (p := ⟨w2.heap.size, 3, none⟩) (Nat.le_refl _) (.int .i64 (subR k n s k' n' s').2.2.2)
      exact ⟨_, rfl, put4 T3.out _ _ _ _, by omega, There.ext t.out hy, Ext.trans hE.out hy⟩
  case rest =>
    obtain ⟨g, rfl, ⟨r0, r1, r2, r3⟩, hg, t', hE'⟩ := hcut
    clear hE t lt_1 lt_2 lt_3 lt_4 lt_5 lt_6 lt_7 lt_8 c0_0_0 c0_0_1 c0_0_2 c0_1_0 c0_1_1 c0_1_2 c1_4_1
    have p0 := t'.out.cell (o := 0) (by omega)
    have f0 := t'.out.free (o := 0) (by omega)
    have p1 := t'.out.cell (o := 1) (by omega)
    have f1 := t'.out.free (o := 1) (by omega)
    have p2 := t'.out.cell (o := 2) (by omega)
    have f2 := t'.out.free (o := 2) (by omega)
    go_wp2_with fail
    go_region
    have kk := hid (put3 t'.out (.int .i64 (subR k n s k' n' s').1) (.int .i64 (subR k n s k' n' s').2.1) (.string (subR k n s k' n' s').2.2.1))
    have Fin := hid (Ext.drew_right (Ext.set (Ext.set (Ext.set hE'.out (p := ⟨w.heap.size + 1 + 1, 0, none⟩) (show w.heap.size ≤ w.heap.size + 1 + 1 by omega) (.int .i64 (subR k n s k' n' s').1)) (p := ⟨w.heap.size + 1 + 1, 1, none⟩) (show w.heap.size ≤ w.heap.size + 1 + 1 by omega) (.int .i64 (subR k n s k' n' s').2.1)) (p := ⟨w.heap.size + 1 + 1, 2, none⟩) (show w.heap.size ≤ w.heap.size + 1 + 1 by omega) (.string (subR k n s k' n' s').2.2.1)))
    clear t' hE' p0 p1 p2 f0 f1 f2 r0 r1 r2 r3 hg
    go_wp2
    obtain ⟨k0, k1, k2⟩ := kk.out
    exact bodyPost_ret (v := .tuple #[.agg #[.int .i64 (subR k n s k' n' s').1, .int .i64 (subR k n s k' n' s').2.1, .string (subR k n s k' n' s').2.2.1], .int .i64 (subR k n s k' n' s').2.2.2, .int .i64 0]) (by simp [results, Tryd.results17, go_sem, k0, k1, k2]) rfl ⟨rfl, Fin.out⟩
end Go.Proofs.YtkjcfnmbnddhjaaDoor
