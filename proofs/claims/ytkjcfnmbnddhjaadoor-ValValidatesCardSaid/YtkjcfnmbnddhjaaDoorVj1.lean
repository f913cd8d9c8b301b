/-
  The text of a value: the program, the reference; the law.
-/
import Derived.Test.YtkjcfnmbnddhjaaDoorVf1
import Derived.Deep.RegionHeld3
namespace Go.Proofs.YtkjcfnmbnddhjaaDoor
open Go.RowKit
set_option linter.unusedVariables false
set_option linter.unusedSimpArgs false
def dash : ByteArray := ⟨#[45]⟩
def shD (t : ByteArray) : ByteArray := t.extract 0 4 ++ dash ++ t.extract 4 6 ++ dash ++ t.extract 6 t.size
/-- The text of a right value. -/
noncomputable def shT (k n : Int) (s : ByteArray) : ByteArray := if k = 0 then ⟨#[78, 73, 76]⟩ else if k = 1 then (if n = 1 then ⟨#[46, 84, 46]⟩ else ⟨#[46, 70, 46]⟩) else if k = 2 then decB n else if k = 3 then shD (stS n) else s
noncomputable def shS (k n : Int) (s : ByteArray) : ByteArray := if valE k n s = 0 then shT k n s else ByteArray.empty
theorem sh_no {k n : Int} {s : ByteArray} (h : valE k n s ≠ 0) : shS k n s = ByteArray.empty := by unfold shS; rw [if_neg h]
theorem sh_yes {k n : Int} {s : ByteArray} (h : valE k n s = 0) : shS k n s = shT k n s := by unfold shS; rw [if_pos h]
theorem val_is {k n : Int} {s : ByteArray} (h : valE k n s = 0) : isV k n s = true := by
  unfold valE at h
  split at h
  · cases h
  · split at h
    · assumption
    · cases h
theorem val_kinds {k n : Int} {s : ByteArray} (h : valE k n s = 0) : k = 0 ∨ (k = 1 ∧ (n = 0 ∨ n = 1)) ∨ (k = 2 ∧ isNumB n = true) ∨ (k = 3 ∧ isDayB n = true) ∨ k = 4 := by
  have hv := val_is h
  unfold isV at hv
  by_cases k4 : k = 4
  · omega
  rw [if_neg k4] at hv
  split at hv
  · cases hv
  by_cases k0 : k = 0
  · omega
  rw [if_neg k0] at hv
  by_cases k1 : k = 1
  · rw [if_pos k1] at hv
    exact Or.inr (Or.inl ⟨k1, by simpa using hv⟩)
  rw [if_neg k1] at hv
  by_cases k2 : k = 2
  · rw [if_pos k2] at hv
    exact Or.inr (Or.inr (Or.inl ⟨k2, hv⟩))
  rw [if_neg k2] at hv
  by_cases k3 : k = 3
  · rw [if_pos k3] at hv
    exact Or.inr (Or.inr (Or.inr (Or.inl ⟨k3, hv⟩)))
  rw [if_neg k3] at hv
  cases hv
theorem stS_size {n : Int} (h : isDayB n = true) : (stS n).size = 8 := by
  by_cases h0 : n = 0
  · subst h0; rw [stS_0]; rfl
  · rw [stS_yes h h0, stB_size h]
theorem sh_adds (t : ByteArray) (ht : t.size = 8) : (∀ wx, (Op.stringOp .add (t.extract 0 4) ⟨#[45]⟩).run Tryd.prog wx = .ok (.string (t.extract 0 4 ++ dash)) wx) ∧
    (∀ wx, (Op.stringOp .add (t.extract 0 4 ++ dash) (t.extract 4 6)).run Tryd.prog wx = .ok (.string (t.extract 0 4 ++ dash ++ t.extract 4 6)) wx) ∧
    (∀ wx, (Op.stringOp .add (t.extract 0 4 ++ dash ++ t.extract 4 6) ⟨#[45]⟩).run Tryd.prog wx = .ok (.string (t.extract 0 4 ++ dash ++ t.extract 4 6 ++ dash)) wx) ∧
    (∀ wx, (Op.stringOp .add (t.extract 0 4 ++ dash ++ t.extract 4 6 ++ dash) (t.extract 6 8)).run Tryd.prog wx = .ok (.string (shD t)) wx) := by
  have z1 : (t.extract 0 4).size = 4 := by rw [ByteArray.size_extract]; omega
  have z2 : (t.extract 4 6).size = 2 := by rw [ByteArray.size_extract]; omega
  have z3 : (t.extract 6 8).size = 2 := by rw [ByteArray.size_extract]; omega
  have zd : dash.size = 1 := rfl
  refine ⟨fun wx => str_add _ dash (by rw [z1, zd]; omega) wx, fun wx => str_add _ _ (by rw [ByteArray.size_append, z1, z2, zd]; omega) wx, fun wx => str_add _ dash (by rw [ByteArray.size_append, ByteArray.size_append, z1, z2, zd]; omega) wx, fun wx => ?_⟩
  rw [show shD t = t.extract 0 4 ++ dash ++ t.extract 4 6 ++ dash ++ t.extract 6 8 by unfold shD; rw [ht]]
  exact str_add _ _ (by rw [ByteArray.size_append, ByteArray.size_append, ByteArray.size_append, z1, z2, z3, zd]; omega) wx
theorem ext_drew {w w' : World} (h : Ext w w') (n : Nat) : Ext w (w'.drewN n) := h.drewN_right n
set_option maxRecDepth 100000 in
set_option maxHeartbeats 4000000 in
theorem Show_any (k n : Int) (s : ByteArray) (w : World) : Calls Tryd.prog 42 #[vV k n s] w (GiveSE (shS k n s) (valE k n s) w) := by
  by_cases he : valE k n s = 0
  rotate_left
  · have d1 : (valE k n s != 0) = true := by simpa using he
    rw [sh_no he]
    have hv := hid (fun w => Validate_any k n s w)
    clear he
    generalize valE k n s = E at *
    unfold vV at *
    go_enter Tryd.func42, Tryd.ntmps42
    go_wp2_with fail
    refine (hv.out _).mono ?_
    rintro e w1 ⟨rfl, hx1⟩
    have b0 : w1.cell? ⟨w.heap.size, 0, none⟩ = some (.int .i64 k) := hx1.cell (by go_simp)
    have b1 : w1.cell? ⟨w.heap.size, 1, none⟩ = some (.int .i64 n) := hx1.cell (by go_simp)
    have b2 : w1.cell? ⟨w.heap.size, 2, none⟩ = some (.string s) := hx1.cell (by go_simp)
    have hE := hid (Ext.trans ((Ext.refl w).alloc_right _) hx1)
    have lt := World.block_lt_of_cell? w1 _ b0
    clear hx1
    go_wp2
    go_ret2
    exact ⟨rfl, hE.out⟩
  have hk := val_kinds he
  rw [sh_yes he]
  have hv := hid (fun w => Validate_any k n s w)
  rw [he] at hv ⊢
  clear he
  unfold vV at *
  rcases hk with rfl | ⟨rfl, hn⟩ | ⟨rfl, hn⟩ | ⟨rfl, hn⟩ | rfl
  · have hf := hid (show shT 0 n s = ⟨#[78, 73, 76]⟩ from rfl)
    generalize shT 0 n s = T at *
    go_enter Tryd.func42, Tryd.ntmps42
    go_wp2_with fail
    refine (hv.out _).mono ?_
    rintro e w1 ⟨rfl, hx1⟩
    have b0 : w1.cell? ⟨w.heap.size, 0, none⟩ = some (.int .i64 0) := hx1.cell (by go_simp)
    have b1 : w1.cell? ⟨w.heap.size, 1, none⟩ = some (.int .i64 n) := hx1.cell (by go_simp)
    have b2 : w1.cell? ⟨w.heap.size, 2, none⟩ = some (.string s) := hx1.cell (by go_simp)
    have hE := hid (Ext.trans ((Ext.refl w).alloc_right _) hx1)
    have lt := World.block_lt_of_cell? w1 _ b0
    clear hx1
    go_wp2
    go_ret2
    exact ⟨by rw [hf.out]; rfl, hE.out⟩
  · rcases hn with rfl | rfl
    · have hf := hid (show shT 1 0 s = ⟨#[46, 70, 46]⟩ from rfl)
      generalize shT 1 0 s = T at *
      have ix : ∀ wx, (Instr.index 41 (.agg #[.string ⟨#[46, 70, 46]⟩, .string ⟨#[46, 84, 46]⟩]) (.int .i64 0)).run Tryd.prog wx = .ok (.string ⟨#[46, 70, 46]⟩) wx := fun _ => by kernel_rfl
      go_enter Tryd.func42, Tryd.ntmps42
      go_wp2_with fail
      refine (hv.out _).mono ?_
      rintro e w1 ⟨rfl, hx1⟩
      have b0 : w1.cell? ⟨w.heap.size, 0, none⟩ = some (.int .i64 1) := hx1.cell (by go_simp)
      have b1 : w1.cell? ⟨w.heap.size, 1, none⟩ = some (.int .i64 0) := hx1.cell (by go_simp)
      have b2 : w1.cell? ⟨w.heap.size, 2, none⟩ = some (.string s) := hx1.cell (by go_simp)
      have hE := hid (Ext.trans ((Ext.refl w).alloc_right _) hx1)
      have lt := World.block_lt_of_cell? w1 _ b0
      clear hx1
      go_wp2
      go_ret2
      exact ⟨by rw [hf.out]; rfl, hE.out⟩
    · have hf := hid (show shT 1 1 s = ⟨#[46, 84, 46]⟩ from rfl)
      generalize shT 1 1 s = T at *
      have ix : ∀ wx, (Instr.index 41 (.agg #[.string ⟨#[46, 70, 46]⟩, .string ⟨#[46, 84, 46]⟩]) (.int .i64 1)).run Tryd.prog wx = .ok (.string ⟨#[46, 84, 46]⟩) wx := fun _ => by kernel_rfl
      go_enter Tryd.func42, Tryd.ntmps42
      go_wp2_with fail
      refine (hv.out _).mono ?_
      rintro e w1 ⟨rfl, hx1⟩
      have b0 : w1.cell? ⟨w.heap.size, 0, none⟩ = some (.int .i64 1) := hx1.cell (by go_simp)
      have b1 : w1.cell? ⟨w.heap.size, 1, none⟩ = some (.int .i64 1) := hx1.cell (by go_simp)
      have b2 : w1.cell? ⟨w.heap.size, 2, none⟩ = some (.string s) := hx1.cell (by go_simp)
      have hE := hid (Ext.trans ((Ext.refl w).alloc_right _) hx1)
      have lt := World.block_lt_of_cell? w1 _ b0
      clear hx1
      go_wp2
      go_ret2
      exact ⟨by rw [hf.out]; rfl, hE.out⟩
  · have hf := hid (show shT 2 n s = decB n from rfl)
    have hn := isNum_iff.1 hn
    have hc := hid (fun w => dec_any n hn.1 hn.2 w)
    generalize shT 2 n s = T at *
    generalize decB n = D at *
    clear hn
    go_enter Tryd.func42, Tryd.ntmps42
    go_wp2_with fail
    refine (hv.out _).mono ?_
    rintro e w1 ⟨rfl, hx1⟩
    have b0 : w1.cell? ⟨w.heap.size, 0, none⟩ = some (.int .i64 2) := hx1.cell (by go_simp)
    have b1 : w1.cell? ⟨w.heap.size, 1, none⟩ = some (.int .i64 n) := hx1.cell (by go_simp)
    have b2 : w1.cell? ⟨w.heap.size, 2, none⟩ = some (.string s) := hx1.cell (by go_simp)
    have hE := hid (Ext.trans ((Ext.refl w).alloc_right _) hx1)
    have lt := World.block_lt_of_cell? w1 _ b0
    clear hx1
    go_wp2_with fail
    refine (hc.out _).mono ?_
    rintro e w2 ⟨rfl, hd⟩
    replace hE := hid (hE.out.trans (Dr.ext hd))
    clear hd
    go_wp2
    go_ret2
    exact ⟨by rw [hf.out]; rfl, hE.out⟩
  · have hc := hid (fun w => stamp_any n hn w)
    by_cases h0 : n = 0
    · subst h0
      have hf := hid (show shT 3 0 s = ⟨#[32, 32, 32, 32, 45, 32, 32, 45, 32, 32]⟩ by
        show shD (stS 0) = _
        rw [stS_0]
        decide)
      generalize shT 3 0 s = T at *
      generalize stB 0 = D at *
      clear hn
      go_enter Tryd.func42, Tryd.ntmps42
      go_wp2_with fail
      refine (hv.out _).mono ?_
      rintro e w1 ⟨rfl, hx1⟩
      have b0 : w1.cell? ⟨w.heap.size, 0, none⟩ = some (.int .i64 3) := hx1.cell (by go_simp)
      have b1 : w1.cell? ⟨w.heap.size, 1, none⟩ = some (.int .i64 0) := hx1.cell (by go_simp)
      have b2 : w1.cell? ⟨w.heap.size, 2, none⟩ = some (.string s) := hx1.cell (by go_simp)
      have hE := hid (Ext.trans ((Ext.refl w).alloc_right _) hx1)
      have lt := World.block_lt_of_cell? w1 _ b0
      clear hx1
      go_wp2_with fail
      refine (hc.out _).mono ?_
      rintro e w2 ⟨rfl, hx2⟩
      have b3 : w2.cell? ⟨w.heap.size, 1, none⟩ = some (.int .i64 0) := hx2.cell b1
      replace hE := hid (hE.out.trans hx2)
      have lt2 := World.block_lt_of_cell? w2 _ b3
      clear hx2
      go_wp2
      go_ret2
      exact ⟨by rw [hf.out]; rfl, hE.out⟩
    · have d0 : (n == 0) = false := by simpa using h0
      have hf := hid (show shT 3 n s = shD (stB n) by
        show shD (stS n) = _
        rw [stS_yes hn h0])
      have hz := stB_size hn
      generalize shT 3 n s = T at *
      generalize stB n = D at *
      obtain ⟨a1, a2, a3, a4⟩ := sh_adds D hz
      generalize shD D = Q at *
      have a1 : ∀ wx, (Op.stringOp .add (D.extract 0 4) ⟨#[45]⟩).run Tryd.prog wx = .ok (.string (D.extract 0 4 ++ dash)) wx := a1
      clear hn h0
      go_enter Tryd.func42, Tryd.ntmps42
      go_wp2_with fail
      refine (hv.out _).mono ?_
      rintro e w1 ⟨rfl, hx1⟩
      have b0 : w1.cell? ⟨w.heap.size, 0, none⟩ = some (.int .i64 3) := hx1.cell (by go_simp)
      have b1 : w1.cell? ⟨w.heap.size, 1, none⟩ = some (.int .i64 n) := hx1.cell (by go_simp)
      have b2 : w1.cell? ⟨w.heap.size, 2, none⟩ = some (.string s) := hx1.cell (by go_simp)
      have hE := hid (Ext.trans ((Ext.refl w).alloc_right _) hx1)
      have lt := World.block_lt_of_cell? w1 _ b0
      clear hx1
      go_wp2_with fail
      refine (hc.out _).mono ?_
      rintro e w2 ⟨rfl, hx2⟩
      have b3 : w2.cell? ⟨w.heap.size, 1, none⟩ = some (.int .i64 n) := hx2.cell b1
      replace hE := hid (hE.out.trans hx2)
      have lt2 := World.block_lt_of_cell? w2 _ b3
      clear hx2
      go_wp2
      go_quiet (fail)
      go_wp2
      go_ret2
      exact ⟨by rw [hf.out]; rfl, ext_drew hE.out _⟩
  · have hf := hid (show shT 4 n s = s from rfl)
    generalize shT 4 n s = T at *
    go_enter Tryd.func42, Tryd.ntmps42
    go_wp2_with fail
    refine (hv.out _).mono ?_
    rintro e w1 ⟨rfl, hx1⟩
    have b0 : w1.cell? ⟨w.heap.size, 0, none⟩ = some (.int .i64 4) := hx1.cell (by go_simp)
    have b1 : w1.cell? ⟨w.heap.size, 1, none⟩ = some (.int .i64 n) := hx1.cell (by go_simp)
    have b2 : w1.cell? ⟨w.heap.size, 2, none⟩ = some (.string s) := hx1.cell (by go_simp)
    have hE := hid (Ext.trans ((Ext.refl w).alloc_right _) hx1)
    have lt := World.block_lt_of_cell? w1 _ b0
    clear hx1
    go_wp2
    go_ret2
    exact ⟨by rw [hf.out]; rfl, hE.out⟩
set_option maxRecDepth 100000 in
set_option maxHeartbeats 4000000 in
theorem Shown_any (k n : Int) (s : ByteArray) (he : valE k n s = 0) (w : World) : Calls Tryd.prog 91 #[vV k n s] w (Give (.string (shT k n s)) w) := by
  have hk := val_kinds he
  clear he
  unfold vV at *
  rcases hk with rfl | ⟨rfl, hn⟩ | ⟨rfl, hn⟩ | ⟨rfl, hn⟩ | rfl
  · have hf := hid (show shT 0 n s = ⟨#[78, 73, 76]⟩ from rfl)
    generalize shT 0 n s = T at *
    go_enter Tryd.func91, Tryd.ntmps91
    go_wp2
    go_ret
    exact ⟨by rw [hf.out]; rfl, (Ext.refl _).alloc_right _⟩
  · rcases hn with rfl | rfl
    · have hf := hid (show shT 1 0 s = ⟨#[46, 70, 46]⟩ from rfl)
      generalize shT 1 0 s = T at *
      go_enter Tryd.func91, Tryd.ntmps91
      go_wp2
      go_ret
      exact ⟨by rw [hf.out]; rfl, (Ext.refl _).alloc_right _⟩
    · have hf := hid (show shT 1 1 s = ⟨#[46, 84, 46]⟩ from rfl)
      generalize shT 1 1 s = T at *
      go_enter Tryd.func91, Tryd.ntmps91
      go_wp2
      go_ret
      exact ⟨by rw [hf.out]; rfl, (Ext.refl _).alloc_right _⟩
  · have hf := hid (show shT 2 n s = decB n from rfl)
    have hn := isNum_iff.1 hn
    have hc := hid (fun w => wri_any n hn.1 hn.2 w)
    generalize shT 2 n s = T at *
    generalize decB n = D at *
    clear hn
    go_enter Tryd.func91, Tryd.ntmps91
    go_wp2_with fail
    refine (hc.out _).mono ?_
    rintro e w' ⟨rfl, rfl⟩
    go_wp2
    go_ret
    exact ⟨by rw [hf.out]; rfl, (Ext.refl _).alloc_right _⟩
  · have hc := hid (fun w => rStamp_any n w)
    have hz := stS_size hn
    have hf := hid (show shT 3 n s = shD (stS n) from rfl)
    generalize shT 3 n s = T at *
    generalize stS n = D at *
    generalize spE n = E at *
    obtain ⟨a1, a2, a3, a4⟩ := sh_adds D hz
    generalize shD D = Q at *
    clear hn
    go_enter Tryd.func91, Tryd.ntmps91
    go_wp2_with fail
    refine (hc.out _).mono ?_
    rintro e w' ⟨rfl, rfl⟩
    go_wp2
    go_quiet (fail)
    go_wp2
    go_ret
    exact ⟨by rw [hf.out]; rfl, ext_drew ((Ext.refl _).alloc_right _) _⟩
  · have hf := hid (show shT 4 n s = s from rfl)
    generalize shT 4 n s = T at *
    go_enter Tryd.func91, Tryd.ntmps91
    go_wp2
    go_ret
    exact ⟨by rw [hf.out]; rfl, (Ext.refl _).alloc_right _⟩
set_option maxRecDepth 100000 in
set_option maxHeartbeats 4000000 in
theorem rShow_any (k n : Int) (s : ByteArray) (w : World) : Calls Tryd.prog 43 #[vV k n s] w (GiveSE (shS k n s) (valE k n s) w) := by
  by_cases he : valE k n s = 0
  rotate_left
  · have d1 : (valE k n s != 0) = true := by simpa using he
    rw [sh_no he]
    have hv := hid (fun w => rValidate_any k n s w)
    clear he
    generalize valE k n s = E at *
    unfold vV at *
    go_enter Tryd.func43, Tryd.ntmps43
    go_wp2_with fail
    refine (hv.out _).mono ?_
    rintro e w1 ⟨rfl, hx1⟩
    have b0 : w1.cell? ⟨w.heap.size, 0, none⟩ = some (.int .i64 k) := hx1.cell (by go_simp)
    have b1 : w1.cell? ⟨w.heap.size, 1, none⟩ = some (.int .i64 n) := hx1.cell (by go_simp)
    have b2 : w1.cell? ⟨w.heap.size, 2, none⟩ = some (.string s) := hx1.cell (by go_simp)
    have hE := hid (Ext.trans ((Ext.refl w).alloc_right _) hx1)
    have lt := World.block_lt_of_cell? w1 _ b0
    clear hx1
    go_wp2
    go_ret2
    exact ⟨rfl, hE.out⟩
  rw [sh_yes he]
  have hc := hid (fun w => Shown_any k n s he w)
  have hv := hid (fun w => rValidate_any k n s w)
  rw [he] at hv ⊢
  clear he
  generalize shT k n s = T at *
  unfold vV at *
  go_enter Tryd.func43, Tryd.ntmps43
  go_wp2_with fail
  refine (hv.out _).mono ?_
  rintro e w1 ⟨rfl, hx1⟩
  have b0 : w1.cell? ⟨w.heap.size, 0, none⟩ = some (.int .i64 k) := hx1.cell (by go_simp)
  have b1 : w1.cell? ⟨w.heap.size, 1, none⟩ = some (.int .i64 n) := hx1.cell (by go_simp)
  have b2 : w1.cell? ⟨w.heap.size, 2, none⟩ = some (.string s) := hx1.cell (by go_simp)
  have hE := hid (Ext.trans ((Ext.refl w).alloc_right _) hx1)
  have lt := World.block_lt_of_cell? w1 _ b0
  clear hx1
  go_wp2_with fail
  refine (hc.out _).mono ?_
  rintro e w2 ⟨rfl, hx2⟩
  go_wp2
  go_ret2
  exact ⟨rfl, hE.out.trans hx2⟩
set_option maxRecDepth 100000 in
set_option maxHeartbeats 4000000 in
theorem validates_law (k n : Int) (s : ByteArray) (w : World) (_ : (Lit.int .i64 k).wf = true) (_ : (Lit.int .i64 n).wf = true) (hs : s.size ≤ maxLen) : Calls Tryd.prog 11 #[vV k n s] w (Give (.bool true) w) := by
  clear hs
  have c1 := hid (fun w => Show_any k n s w)
  have c2 := hid (fun w => rShow_any k n s w)
  have c3 := hid (fun w => Validate_any k n s w)
  have c4 := hid (fun w => rValidate_any k n s w)
  generalize shS k n s = T at *
  generalize valE k n s = E at *
  unfold vV at *
  by_cases hl : 20000 < s.size
  · have d1 : decide ((20000 : Int) < (s.size : Int)) = true := by simp; omega
    go_enter Tryd.func11, Tryd.ntmps11
    go_wp2_with fail
    refine (known_any _).mono ?_
    rintro e w1 ⟨rfl, hx⟩
    go_wp2
    go_ret
    exact ⟨rfl, ((Ext.refl _).alloc_right _).trans hx⟩
  have d1 : decide ((20000 : Int) < (s.size : Int)) = false := by simp; omega
  clear hl
  go_enter Tryd.func11, Tryd.ntmps11
  go_wp2_with fail
  refine (c1.out _).mono ?_
  rintro e w1 ⟨rfl, hx1⟩
  have b0 : w1.cell? ⟨w.heap.size, 0, none⟩ = some (.int .i64 k) := hx1.cell (by go_simp)
  have b1 : w1.cell? ⟨w.heap.size, 1, none⟩ = some (.int .i64 n) := hx1.cell (by go_simp)
  have b2 : w1.cell? ⟨w.heap.size, 2, none⟩ = some (.string s) := hx1.cell (by go_simp)
  have hE := hid (Ext.trans ((Ext.refl w).alloc_right _) hx1)
  have lt := World.block_lt_of_cell? w1 _ b0
  clear hx1
  go_wp2_with fail
  refine (c2.out _).mono ?_
  rintro e w2 ⟨rfl, hx2⟩
  replace b0 := hx2.cell b0
  replace b1 := hx2.cell b1
  replace b2 := hx2.cell b2
  replace hE := hid (hE.out.trans hx2)
  clear lt
  have lt := World.block_lt_of_cell? w2 _ b0
  clear hx2
  have HS : Hid (∀ w', Ext w2 w' → (w'.cell? ⟨w.heap.size, 0, none⟩ = some (.int .i64 k) ∧ w'.cell? ⟨w.heap.size, 1, none⟩ = some (.int .i64 n) ∧ w'.cell? ⟨w.heap.size, 2, none⟩ = some (.string s) ∧ w.heap.size < w'.heap.size ∧ Ext w2 w')) := fun w' hx => ⟨hx.cell b0, hx.cell b1, hx.cell b2, World.block_lt_of_cell? w' _ (hx.cell b0), hx⟩
  go_wp2_with fail
  have I := hid (HS.out w2.drew (Ext.refl w2).drew_right)
  clear b0 b1 b2 lt
  go_region_held3 (fun w' => w'.cell? ⟨w.heap.size, 0, none⟩ = some (.int .i64 k) ∧ w'.cell? ⟨w.heap.size, 1, none⟩ = some (.int .i64 n) ∧ w'.cell? ⟨w.heap.size, 2, none⟩ = some (.string s) ∧ w.heap.size < w'.heap.size ∧ Ext w2 w')
    ((first | exact I.out | (go_split_ands; exact HS.out _ (Ext.trans (by assumption) hx4)) | (go_split_ands; exact HS.out _ (Ext.trans (by assumption) hx5)) | (go_split_ands; exact HS.out _ (Ext.trans (by assumption) hx6))))
    ((first | (go_at_call 44; go_split_ands; refine (c3.out _).mono ?_; rintro e w4 ⟨rfl, hx4⟩) | (go_at_call 45; go_split_ands; refine (c4.out _).mono ?_; rintro e w5 ⟨rfl, hx5⟩) | (go_at_call 16; go_split_ands; refine (known_any _).mono ?_; rintro e w6 ⟨rfl, hx6⟩)))
  all_goals go_wp2
  all_goals go_ret
  all_goals exact ⟨rfl, Ext.trans hE.out (Ext.trans (by assumption) hx6)⟩
end Go.Proofs.YtkjcfnmbnddhjaaDoor
