/-
  The program's powers.
-/
import Derived.Test.YtkjcfnmbnddhjaaDoorVc4
namespace Go.Proofs.YtkjcfnmbnddhjaaDoor
open Go.RowKit
set_option linter.unusedVariables false
set_option linter.unusedSimpArgs false
theorem mul_no {x a : Int} (h : prB x a = false) : mulR x a = diedR 3 := by rw [mul_pr, h]; rfl
theorem mul_yes {x a : Int} (h : prB x a = true) : mulR x a = (2, prO x a, ByteArray.empty, 0) := by
  rw [mul_pr, h]
  show numR _ = _
  rw [num_t (isNum_iff.2 (pr_true h))]
set_option maxRecDepth 100000 in
set_option maxHeartbeats 8000000 in
theorem pow_any (a b : Int) (w : World) (ha : -1000000000000000 ≤ a ∧ a ≤ 1000000000000000) (hb : -1000000000000000 ≤ b ∧ b ≤ 1000000000000000) : Calls Tryd.prog 66 #[.int .i64 a, .int .i64 b] w (Give (rV (powR a b)) w) := by
  by_cases bn : b < 0
  · have d1 : decide (b < 0) = true := by simpa using bn
    rw [show powR a b = diedR 3 by unfold powR powO powB; rw [if_pos bn, if_pos bn]; rfl]
    clear bn
    go_enter Tryd.func66, Tryd.ntmps66
    go_wp2_with fail
    refine (died_r 3 _).mono ?_
    rintro e w1 ⟨rfl, hx1⟩
    have t := hid (There.ext (There.newb w #[.int .i64 0, .int .i64 0, .string { data := #[] }, .int .i64 0] 70 (n := 4) (b := w.heap.size) (by simp) (by decide)) hx1)
    have c0_0_0 : w1.cell? ⟨w.heap.size, 0, none⟩ = some (.int .i64 0) := hx1.cell (by go_simp)
    have c0_0_1 : w1.cell? ⟨w.heap.size, 1, none⟩ = some (.int .i64 0) := hx1.cell (by go_simp)
    have c0_0_2 : w1.cell? ⟨w.heap.size, 2, none⟩ = some (.string { data := #[] }) := hx1.cell (by go_simp)
    have c0_0_3 : w1.cell? ⟨w.heap.size, 3, none⟩ = some (.int .i64 0) := hx1.cell (by go_simp)
    have hE := hid (Ext.trans ((Ext.refl w).alloc_right _) hx1)
    have lt_1 : w.heap.size < w1.heap.size := World.block_lt_of_cell? w1 _ c0_0_0
    clear hx1
    unfold rV
    have p0 := t.out.cell (o := 0) (by omega)
    have f0 := t.out.free (o := 0) (by omega)
    have p1 := t.out.cell (o := 1) (by omega)
    have f1 := t.out.free (o := 1) (by omega)
    have p2 := t.out.cell (o := 2) (by omega)
    have f2 := t.out.free (o := 2) (by omega)
    have p3 := t.out.cell (o := 3) (by omega)
    have f3 := t.out.free (o := 3) (by omega)
    have kk := hid (put4 t.out (.int .i64 (diedR 3).1) (.int .i64 (diedR 3).2.1) (.string (diedR 3).2.2.1) (.int .i64 (diedR 3).2.2.2))
    have Fin := hid ((((hE.out.set (p := ⟨w.heap.size, 0, none⟩) (show w.heap.size ≤ w.heap.size by omega) (.int .i64 (diedR 3).1)).set (p := ⟨w.heap.size, 1, none⟩) (show w.heap.size ≤ w.heap.size by omega) (.int .i64 (diedR 3).2.1)).set (p := ⟨w.heap.size, 2, none⟩) (show w.heap.size ≤ w.heap.size by omega) (.string (diedR 3).2.2.1)).set (p := ⟨w.heap.size, 3, none⟩) (show w.heap.size ≤ w.heap.size by omega) (.int .i64 (diedR 3).2.2.2))
    clear t
    clear c0_0_0 c0_0_1 c0_0_2 c0_0_3
    go_wp2
    obtain ⟨k0, k1, k2, k3⟩ := kk.out
    exact bodyPost_ret (v := .agg #[.int .i64 (diedR 3).1, .int .i64 (diedR 3).2.1, .string (diedR 3).2.2.1, .int .i64 (diedR 3).2.2.2]) (by simp [results, Tryd.results66, go_sem, k0, k1, k2, k3]) rfl ⟨rfl, Fin.out⟩
  have d1 : decide (b < 0) = false := by simpa using bn
  have hb0 : 0 ≤ b := by omega
  have hb1 : b ≤ 1000000000000000 := hb.2
  by_cases hsz : sizeN a ≤ 1
  · by_cases hmn : b ≤ 2 + b % 2
    · have d2 : decide (sizeN a ≤ 1) = true := by simpa using hsz
      have hR : Hid (powR a b = limR (pw a b.toNat).1 (pw a b.toNat).2) := by unfold Hid powR powO powB; rw [if_neg bn, if_neg bn, ← pw_small hsz hb0, Int.min_eq_left (by omega)]
      have r0 : 0 ≤ b % 2 := by omega
      have r1 : b % 2 ≤ 1 := by omega
      go_enter Tryd.func66, Tryd.ntmps66
      go_wp2_with fail
      refine (size_any _ _ ha).mono ?_
      rintro e w' ⟨rfl, rfl⟩
      go_wp2_with fail
      refine (number_any 1 _).mono ?_
      rintro e w1 ⟨rfl, hx1⟩
      have t0 := hid (There.ext (There.newb w #[.int .i64 0, .int .i64 0, .string { data := #[] }, .int .i64 0] 70 (n := 4) (b := w.heap.size) (by simp) (by decide)) hx1)
      have c0_0_0 : w1.cell? ⟨w.heap.size, 0, none⟩ = some (.int .i64 0) := hx1.cell (by go_simp)
      have c0_0_1 : w1.cell? ⟨w.heap.size, 1, none⟩ = some (.int .i64 0) := hx1.cell (by go_simp)
      have c0_0_2 : w1.cell? ⟨w.heap.size, 2, none⟩ = some (.string { data := #[] }) := hx1.cell (by go_simp)
      have c0_0_3 : w1.cell? ⟨w.heap.size, 3, none⟩ = some (.int .i64 0) := hx1.cell (by go_simp)
      have hE := hid (Ext.trans ((Ext.refl w).alloc_right _) hx1)
      have lt_1 : w.heap.size < w1.heap.size := World.block_lt_of_cell? w1 _ c0_0_0
      clear hx1
      have hne : w.heap.size < w1.heap.size := World.block_lt_of_cell? w1 _ (t0.out.cell (o := 0) (by omega))
      rw [show numR 1 = (2, 1, ByteArray.empty, 0) from rfl]
      unfold rV
      clear c0_0_0 c0_0_1 c0_0_2 c0_0_3
      go_upto_region 6 with fail
      generalize hw_ : (w1.alloc (.cells #[.int .i64 2, .int .i64 1, .string ByteArray.empty, .int .i64 0] 70)) = w2
      have hx2 : Ext (w1.alloc (.cells #[.int .i64 2, .int .i64 1, .string ByteArray.empty, .int .i64 0] 70)) w2 := by rw [hw_]; exact Ext.refl _
      clear hw_
      replace t0 := hid (There.ext (There.ext t0.out ((Ext.refl _).alloc_right _)) hx2)
      have t5 := hid (There.ext (There.newb w1 #[.int .i64 2, .int .i64 1, .string ByteArray.empty, .int .i64 0] 70 (n := 4) (b := w1.heap.size) (by simp) (by decide)) hx2)
      have c1_0_0 : w2.cell? ⟨w1.heap.size, 0, none⟩ = some (.int .i64 2) := hx2.cell (by go_simp)
      have c1_0_1 : w2.cell? ⟨w1.heap.size, 1, none⟩ = some (.int .i64 1) := hx2.cell (by go_simp)
      have c1_0_2 : w2.cell? ⟨w1.heap.size, 2, none⟩ = some (.string ByteArray.empty) := hx2.cell (by go_simp)
      have c1_0_3 : w2.cell? ⟨w1.heap.size, 3, none⟩ = some (.int .i64 0) := hx2.cell (by go_simp)
      replace hE := hid (Ext.trans (hE.out.alloc_right _) hx2)
      clear lt_1
      have lt_1 : w1.heap.size < w2.heap.size := World.block_lt_of_cell? w2 _ c1_0_0
      clear hx2
      have hcs : Hid (w2.cell? ⟨w1.heap.size, 0, none⟩ = some (.int .i64 2) ∧ w2.cell? ⟨w1.heap.size, 1, none⟩ = some (.int .i64 1) ∧ w2.cell? ⟨w1.heap.size, 2, none⟩ = some (.string ByteArray.empty) ∧ w2.cell? ⟨w1.heap.size, 3, none⟩ = some (.int .i64 0)) := ⟨c1_0_0, c1_0_1, c1_0_2, c1_0_3⟩
      clear c1_0_0 c1_0_1 c1_0_2 c1_0_3 lt_1
      go_wp2_with fail
      go_loopw [19] (fun i wr => ∃ (k : Nat) (x : Int), (k : Int) ≤ b ∧ i = .int .i64 k ∧ Hid (pw a k = (x, true)) ∧ Hid (wr.cell? ⟨w1.heap.size, 0, none⟩ = some (.int .i64 2) ∧ wr.cell? ⟨w1.heap.size, 1, none⟩ = some (.int .i64 x) ∧ wr.cell? ⟨w1.heap.size, 2, none⟩ = some (.string ByteArray.empty) ∧ wr.cell? ⟨w1.heap.size, 3, none⟩ = some (.int .i64 0)) ∧ Hid (There wr (w.heap.size) 4) ∧ Hid (There wr (w1.heap.size) 4) ∧ Hid (Ext w wr)) (fun i _ => (b - intOf i).toNat)
      case atStart => exact ⟨0, 1, by omega, rfl, rfl, hcs, t0, t5, hE⟩
      case round =>
        obtain ⟨k, x, hk, rfl, hpw, hc, u0, u5, hx⟩ := hrel
        have hin : -1000000000000000 ≤ x ∧ x ≤ 1000000000000000 := by have h := pw_in a k (by rw [hpw.out]); rw [hpw.out] at h; exact h
        obtain ⟨c0, c1, c2, c3⟩ := hc.out
        have lt5 : w1.heap.size < wr.heap.size := World.block_lt_of_cell? wr _ c0
        by_cases hlt : (k : Int) < b
        · have t1 : decide ((k : Int) < b) = true := by simpa using hlt
          have hs : Hid (pw a (k + 1) = (prO x a, prB x a)) := by unfold Hid; rw [pw_succ, hpw.out]; rfl
          rcases Bool.eq_false_or_eq_true (prB x a) with q | q
          · have hs2 : Hid (pw a (k + 1) = (prO x a, true)) := by unfold Hid; rw [hs.out, q]
            have hm : ∀ w, Calls Tryd.prog 63 #[.int .i64 x, .int .i64 a] w (Give (vR 2 (prO x a) ByteArray.empty 0) w) := fun w => by have h := mul_any x a w hin ha; rw [mul_yes q] at h; exact h
            have hm := hid hm
            go_wp2_with fail
            refine (hm.out _).mono ?_
            rintro e w3 ⟨rfl, hx3⟩
            unfold vR
            have v5 := hid (There.ext u5.out hx3)
            have v0 := hid (There.ext u0.out hx3)
            have hE3 := hid (Ext.trans hx.out hx3)
            have p0 := v5.out.cell (o := 0) (by omega)
            have f0 := v5.out.free (o := 0) (by omega)
            have p1 := v5.out.cell (o := 1) (by omega)
            have f1 := v5.out.free (o := 1) (by omega)
            have p2 := v5.out.cell (o := 2) (by omega)
            have f2 := v5.out.free (o := 2) (by omega)
            have p3 := v5.out.cell (o := 3) (by omega)
            have f3 := v5.out.free (o := 3) (by omega)
            have lt6 : w1.heap.size < w3.heap.size := World.block_lt_of_cell? w3 _ p0
            have kk := hid (put4 v5.out (.int .i64 2) (.int .i64 (prO x a)) (.string ByteArray.empty) (.int .i64 0))
            have z5 : Hid (There ((((w3.setCell ⟨w1.heap.size, 0, none⟩ (.int .i64 2)).setCell ⟨w1.heap.size, 1, none⟩ (.int .i64 (prO x a))).setCell ⟨w1.heap.size, 2, none⟩ (.string ByteArray.empty)).setCell ⟨w1.heap.size, 3, none⟩ (.int .i64 0)) (w1.heap.size) 4) := (There.set (There.set (There.set (There.set v5.out ⟨w1.heap.size, 0, none⟩ (.int .i64 2)) ⟨w1.heap.size, 1, none⟩ (.int .i64 (prO x a))) ⟨w1.heap.size, 2, none⟩ (.string ByteArray.empty)) ⟨w1.heap.size, 3, none⟩ (.int .i64 0))
            have z0 : Hid (There ((((w3.setCell ⟨w1.heap.size, 0, none⟩ (.int .i64 2)).setCell ⟨w1.heap.size, 1, none⟩ (.int .i64 (prO x a))).setCell ⟨w1.heap.size, 2, none⟩ (.string ByteArray.empty)).setCell ⟨w1.heap.size, 3, none⟩ (.int .i64 0)) (w.heap.size) 4) := (There.set (There.set (There.set (There.set v0.out ⟨w1.heap.size, 0, none⟩ (.int .i64 2)) ⟨w1.heap.size, 1, none⟩ (.int .i64 (prO x a))) ⟨w1.heap.size, 2, none⟩ (.string ByteArray.empty)) ⟨w1.heap.size, 3, none⟩ (.int .i64 0))
            have zE : Hid (Ext w ((((w3.setCell ⟨w1.heap.size, 0, none⟩ (.int .i64 2)).setCell ⟨w1.heap.size, 1, none⟩ (.int .i64 (prO x a))).setCell ⟨w1.heap.size, 2, none⟩ (.string ByteArray.empty)).setCell ⟨w1.heap.size, 3, none⟩ (.int .i64 0))) := (Ext.set (Ext.set (Ext.set (Ext.set hE3.out (p := ⟨w1.heap.size, 0, none⟩) ((show w.heap.size ≤ w1.heap.size by omega)) (.int .i64 2)) (p := ⟨w1.heap.size, 1, none⟩) ((show w.heap.size ≤ w1.heap.size by omega)) (.int .i64 (prO x a))) (p := ⟨w1.heap.size, 2, none⟩) ((show w.heap.size ≤ w1.heap.size by omega)) (.string ByteArray.empty)) (p := ⟨w1.heap.size, 3, none⟩) ((show w.heap.size ≤ w1.heap.size by omega)) (.int .i64 0))
            clear v5 v0 hE3 hx3 c0 c1 c2 c3 u0 u5
            go_wp2
            go_roundw
            case rel => exact ⟨k + 1, prO x a, by omega, by go_num, hs2, kk, z0, z5, zE⟩
            case measure => simp [intOf]; omega
          · have hst := hid (pw_stop (a := a) (k := k + 1) (by rw [hs.out]; exact q) (by omega) b.toNat (by omega))
            have hm : ∀ w, Calls Tryd.prog 63 #[.int .i64 x, .int .i64 a] w (Give (vR 0 0 ByteArray.empty 3) w) := fun w => by have h := mul_any x a w hin ha; rw [mul_no q] at h; exact h
            have hm := hid hm
            go_wp2_with fail
            refine (hm.out _).mono ?_
            rintro e w3 ⟨rfl, hx3⟩
            unfold vR
            have v5 := hid (There.ext u5.out hx3)
            have v0 := hid (There.ext u0.out hx3)
            have hE3 := hid (Ext.trans hx.out hx3)
            have p0 := v5.out.cell (o := 0) (by omega)
            have f0 := v5.out.free (o := 0) (by omega)
            have p1 := v5.out.cell (o := 1) (by omega)
            have f1 := v5.out.free (o := 1) (by omega)
            have p2 := v5.out.cell (o := 2) (by omega)
            have f2 := v5.out.free (o := 2) (by omega)
            have p3 := v5.out.cell (o := 3) (by omega)
            have f3 := v5.out.free (o := 3) (by omega)
            have lt6 : w1.heap.size < w3.heap.size := World.block_lt_of_cell? w3 _ p0
            have kk := hid (put4 v5.out (.int .i64 0) (.int .i64 0) (.string ByteArray.empty) (.int .i64 3))
            have z5 : Hid (There ((((w3.setCell ⟨w1.heap.size, 0, none⟩ (.int .i64 0)).setCell ⟨w1.heap.size, 1, none⟩ (.int .i64 0)).setCell ⟨w1.heap.size, 2, none⟩ (.string ByteArray.empty)).setCell ⟨w1.heap.size, 3, none⟩ (.int .i64 3)) (w1.heap.size) 4) := (There.set (There.set (There.set (There.set v5.out ⟨w1.heap.size, 0, none⟩ (.int .i64 0)) ⟨w1.heap.size, 1, none⟩ (.int .i64 0)) ⟨w1.heap.size, 2, none⟩ (.string ByteArray.empty)) ⟨w1.heap.size, 3, none⟩ (.int .i64 3))
            have z0 : Hid (There ((((w3.setCell ⟨w1.heap.size, 0, none⟩ (.int .i64 0)).setCell ⟨w1.heap.size, 1, none⟩ (.int .i64 0)).setCell ⟨w1.heap.size, 2, none⟩ (.string ByteArray.empty)).setCell ⟨w1.heap.size, 3, none⟩ (.int .i64 3)) (w.heap.size) 4) := (There.set (There.set (There.set (There.set v0.out ⟨w1.heap.size, 0, none⟩ (.int .i64 0)) ⟨w1.heap.size, 1, none⟩ (.int .i64 0)) ⟨w1.heap.size, 2, none⟩ (.string ByteArray.empty)) ⟨w1.heap.size, 3, none⟩ (.int .i64 3))
            have zE : Hid (Ext w ((((w3.setCell ⟨w1.heap.size, 0, none⟩ (.int .i64 0)).setCell ⟨w1.heap.size, 1, none⟩ (.int .i64 0)).setCell ⟨w1.heap.size, 2, none⟩ (.string ByteArray.empty)).setCell ⟨w1.heap.size, 3, none⟩ (.int .i64 3))) := (Ext.set (Ext.set (Ext.set (Ext.set hE3.out (p := ⟨w1.heap.size, 0, none⟩) ((show w.heap.size ≤ w1.heap.size by omega)) (.int .i64 0)) (p := ⟨w1.heap.size, 1, none⟩) ((show w.heap.size ≤ w1.heap.size by omega)) (.int .i64 0)) (p := ⟨w1.heap.size, 2, none⟩) ((show w.heap.size ≤ w1.heap.size by omega)) (.string ByteArray.empty)) (p := ⟨w1.heap.size, 3, none⟩) ((show w.heap.size ≤ w1.heap.size by omega)) (.int .i64 3))
            have g0 := v0.out.cell (o := 0) (by omega)
            have h0 := v0.out.free (o := 0) (by omega)
            have g1 := v0.out.cell (o := 1) (by omega)
            have h1 := v0.out.free (o := 1) (by omega)
            have g2 := v0.out.cell (o := 2) (by omega)
            have h2 := v0.out.free (o := 2) (by omega)
            have g3 := v0.out.cell (o := 3) (by omega)
            have h3 := v0.out.free (o := 3) (by omega)
            have kf := hid (put4 z0.out (.int .i64 0) (.int .i64 0) (.string ByteArray.empty) (.int .i64 3))
            have zF : Hid (Ext w ((((((((w3.setCell ⟨w1.heap.size, 0, none⟩ (.int .i64 0)).setCell ⟨w1.heap.size, 1, none⟩ (.int .i64 0)).setCell ⟨w1.heap.size, 2, none⟩ (.string ByteArray.empty)).setCell ⟨w1.heap.size, 3, none⟩ (.int .i64 3)).setCell ⟨w.heap.size, 0, none⟩ (.int .i64 0)).setCell ⟨w.heap.size, 1, none⟩ (.int .i64 0)).setCell ⟨w.heap.size, 2, none⟩ (.string ByteArray.empty)).setCell ⟨w.heap.size, 3, none⟩ (.int .i64 3))) := (Ext.set (Ext.set (Ext.set (Ext.set zE.out (p := ⟨w.heap.size, 0, none⟩) ((Nat.le_refl _)) (.int .i64 0)) (p := ⟨w.heap.size, 1, none⟩) ((Nat.le_refl _)) (.int .i64 0)) (p := ⟨w.heap.size, 2, none⟩) ((Nat.le_refl _)) (.string ByteArray.empty)) (p := ⟨w.heap.size, 3, none⟩) ((Nat.le_refl _)) (.int .i64 3))
            have FinR : Hid (powR a b = diedR 3) := by unfold Hid; rw [hR.out, hst.out]; rfl
            clear v5 v0 hE3 hx3 c0 c1 c2 c3 u0 u5 z0 z5 zE kk
            go_wp2
            obtain ⟨k0, k1, k2, k3⟩ := kf.out
            exact bodyPost_ret (v := .agg #[.int .i64 0, .int .i64 0, .string ByteArray.empty, .int .i64 3]) (by simp [results, Tryd.results66, go_sem, k0, k1, k2, k3]) rfl ⟨by rw [FinR.out]; rfl, zF.out⟩
        · have t1 : decide ((k : Int) < b) = false := by simpa using hlt
          have ek : b.toNat = k := by omega
          have FinR : Hid (powR a b = (2, x, ByteArray.empty, 0)) := by unfold Hid; rw [hR.out, ek, hpw.out]; show numR x = _; rw [num_t (isNum_iff.2 hin)]
          clear ek
          have g0 := u0.out.cell (o := 0) (by omega)
          have h0 := u0.out.free (o := 0) (by omega)
          have g1 := u0.out.cell (o := 1) (by omega)
          have h1 := u0.out.free (o := 1) (by omega)
          have g2 := u0.out.cell (o := 2) (by omega)
          have h2 := u0.out.free (o := 2) (by omega)
          have g3 := u0.out.cell (o := 3) (by omega)
          have h3 := u0.out.free (o := 3) (by omega)
          have kf := hid (put4 u0.out (.int .i64 2) (.int .i64 x) (.string ByteArray.empty) (.int .i64 0))
          have zF : Hid (Ext w ((((wr.setCell ⟨w.heap.size, 0, none⟩ (.int .i64 2)).setCell ⟨w.heap.size, 1, none⟩ (.int .i64 x)).setCell ⟨w.heap.size, 2, none⟩ (.string ByteArray.empty)).setCell ⟨w.heap.size, 3, none⟩ (.int .i64 0))) := (Ext.set (Ext.set (Ext.set (Ext.set hx.out (p := ⟨w.heap.size, 0, none⟩) ((Nat.le_refl _)) (.int .i64 2)) (p := ⟨w.heap.size, 1, none⟩) ((Nat.le_refl _)) (.int .i64 x)) (p := ⟨w.heap.size, 2, none⟩) ((Nat.le_refl _)) (.string ByteArray.empty)) (p := ⟨w.heap.size, 3, none⟩) ((Nat.le_refl _)) (.int .i64 0))
          go_wp2
          obtain ⟨k0, k1, k2, k3⟩ := kf.out
          exact bodyPost_ret (v := .agg #[.int .i64 2, .int .i64 x, .string ByteArray.empty, .int .i64 0]) (by simp [results, Tryd.results66, go_sem, k0, k1, k2, k3]) rfl ⟨by rw [FinR.out]; rfl, zF.out⟩
    · have hmn2 : 2 + b % 2 < b := by omega
      have d2 : decide (sizeN a ≤ 1) = true := by simpa using hsz
      have hR : Hid (powR a b = limR (pw a (2 + b % 2).toNat).1 (pw a (2 + b % 2).toNat).2) := by unfold Hid powR powO powB; rw [if_neg bn, if_neg bn, ← pw_small hsz hb0, Int.min_eq_right (by omega)]
      have r0 : 0 ≤ b % 2 := by omega
      have r1 : b % 2 ≤ 1 := by omega
      go_enter Tryd.func66, Tryd.ntmps66
      go_wp2_with fail
      refine (size_any _ _ ha).mono ?_
      rintro e w' ⟨rfl, rfl⟩
      go_wp2_with fail
      refine (number_any 1 _).mono ?_
      rintro e w1 ⟨rfl, hx1⟩
      have t0 := hid (There.ext (There.newb w #[.int .i64 0, .int .i64 0, .string { data := #[] }, .int .i64 0] 70 (n := 4) (b := w.heap.size) (by simp) (by decide)) hx1)
      have c0_0_0 : w1.cell? ⟨w.heap.size, 0, none⟩ = some (.int .i64 0) := hx1.cell (by go_simp)
      have c0_0_1 : w1.cell? ⟨w.heap.size, 1, none⟩ = some (.int .i64 0) := hx1.cell (by go_simp)
      have c0_0_2 : w1.cell? ⟨w.heap.size, 2, none⟩ = some (.string { data := #[] }) := hx1.cell (by go_simp)
      have c0_0_3 : w1.cell? ⟨w.heap.size, 3, none⟩ = some (.int .i64 0) := hx1.cell (by go_simp)
      have hE := hid (Ext.trans ((Ext.refl w).alloc_right _) hx1)
      have lt_1 : w.heap.size < w1.heap.size := World.block_lt_of_cell? w1 _ c0_0_0
      clear hx1
      have hne : w.heap.size < w1.heap.size := World.block_lt_of_cell? w1 _ (t0.out.cell (o := 0) (by omega))
      rw [show numR 1 = (2, 1, ByteArray.empty, 0) from rfl]
      unfold rV
      clear c0_0_0 c0_0_1 c0_0_2 c0_0_3
      go_upto_region 6 with fail
      generalize hw_ : (w1.alloc (.cells #[.int .i64 2, .int .i64 1, .string ByteArray.empty, .int .i64 0] 70)) = w2
      have hx2 : Ext (w1.alloc (.cells #[.int .i64 2, .int .i64 1, .string ByteArray.empty, .int .i64 0] 70)) w2 := by rw [hw_]; exact Ext.refl _
      clear hw_
      replace t0 := hid (There.ext (There.ext t0.out ((Ext.refl _).alloc_right _)) hx2)
      have t5 := hid (There.ext (There.newb w1 #[.int .i64 2, .int .i64 1, .string ByteArray.empty, .int .i64 0] 70 (n := 4) (b := w1.heap.size) (by simp) (by decide)) hx2)
      have c1_0_0 : w2.cell? ⟨w1.heap.size, 0, none⟩ = some (.int .i64 2) := hx2.cell (by go_simp)
      have c1_0_1 : w2.cell? ⟨w1.heap.size, 1, none⟩ = some (.int .i64 1) := hx2.cell (by go_simp)
      have c1_0_2 : w2.cell? ⟨w1.heap.size, 2, none⟩ = some (.string ByteArray.empty) := hx2.cell (by go_simp)
      have c1_0_3 : w2.cell? ⟨w1.heap.size, 3, none⟩ = some (.int .i64 0) := hx2.cell (by go_simp)
      replace hE := hid (Ext.trans (hE.out.alloc_right _) hx2)
      clear lt_1
      have lt_1 : w1.heap.size < w2.heap.size := World.block_lt_of_cell? w2 _ c1_0_0
      clear hx2
      have hcs : Hid (w2.cell? ⟨w1.heap.size, 0, none⟩ = some (.int .i64 2) ∧ w2.cell? ⟨w1.heap.size, 1, none⟩ = some (.int .i64 1) ∧ w2.cell? ⟨w1.heap.size, 2, none⟩ = some (.string ByteArray.empty) ∧ w2.cell? ⟨w1.heap.size, 3, none⟩ = some (.int .i64 0)) := ⟨c1_0_0, c1_0_1, c1_0_2, c1_0_3⟩
      clear c1_0_0 c1_0_1 c1_0_2 c1_0_3 lt_1
      go_wp2_with fail
      go_loopw [19] (fun i wr => ∃ (k : Nat) (x : Int), (k : Int) ≤ (2 + b % 2) ∧ i = .int .i64 k ∧ Hid (pw a k = (x, true)) ∧ Hid (wr.cell? ⟨w1.heap.size, 0, none⟩ = some (.int .i64 2) ∧ wr.cell? ⟨w1.heap.size, 1, none⟩ = some (.int .i64 x) ∧ wr.cell? ⟨w1.heap.size, 2, none⟩ = some (.string ByteArray.empty) ∧ wr.cell? ⟨w1.heap.size, 3, none⟩ = some (.int .i64 0)) ∧ Hid (There wr (w.heap.size) 4) ∧ Hid (There wr (w1.heap.size) 4) ∧ Hid (Ext w wr)) (fun i _ => ((2 + b % 2) - intOf i).toNat)
      case atStart => exact ⟨0, 1, by omega, rfl, rfl, hcs, t0, t5, hE⟩
      case round =>
        obtain ⟨k, x, hk, rfl, hpw, hc, u0, u5, hx⟩ := hrel
        have hin : -1000000000000000 ≤ x ∧ x ≤ 1000000000000000 := by have h := pw_in a k (by rw [hpw.out]); rw [hpw.out] at h; exact h
        obtain ⟨c0, c1, c2, c3⟩ := hc.out
        have lt5 : w1.heap.size < wr.heap.size := World.block_lt_of_cell? wr _ c0
        by_cases hlt : (k : Int) < (2 + b % 2)
        · have t1 : decide ((k : Int) < (2 + b % 2)) = true := by simpa using hlt
          have hs : Hid (pw a (k + 1) = (prO x a, prB x a)) := by unfold Hid; rw [pw_succ, hpw.out]; rfl
          rcases Bool.eq_false_or_eq_true (prB x a) with q | q
          · have hs2 : Hid (pw a (k + 1) = (prO x a, true)) := by unfold Hid; rw [hs.out, q]
            have hm : ∀ w, Calls Tryd.prog 63 #[.int .i64 x, .int .i64 a] w (Give (vR 2 (prO x a) ByteArray.empty 0) w) := fun w => by have h := mul_any x a w hin ha; rw [mul_yes q] at h; exact h
            have hm := hid hm
            go_wp2_with fail
            refine (hm.out _).mono ?_
            rintro e w3 ⟨rfl, hx3⟩
            unfold vR
            have v5 := hid (There.ext u5.out hx3)
            have v0 := hid (There.ext u0.out hx3)
            have hE3 := hid (Ext.trans hx.out hx3)
            have p0 := v5.out.cell (o := 0) (by omega)
            have f0 := v5.out.free (o := 0) (by omega)
            have p1 := v5.out.cell (o := 1) (by omega)
            have f1 := v5.out.free (o := 1) (by omega)
            have p2 := v5.out.cell (o := 2) (by omega)
            have f2 := v5.out.free (o := 2) (by omega)
            have p3 := v5.out.cell (o := 3) (by omega)
            have f3 := v5.out.free (o := 3) (by omega)
            have lt6 : w1.heap.size < w3.heap.size := World.block_lt_of_cell? w3 _ p0
            have kk := hid (put4 v5.out (.int .i64 2) (.int .i64 (prO x a)) (.string ByteArray.empty) (.int .i64 0))
            have z5 : Hid (There ((((w3.setCell ⟨w1.heap.size, 0, none⟩ (.int .i64 2)).setCell ⟨w1.heap.size, 1, none⟩ (.int .i64 (prO x a))).setCell ⟨w1.heap.size, 2, none⟩ (.string ByteArray.empty)).setCell ⟨w1.heap.size, 3, none⟩ (.int .i64 0)) (w1.heap.size) 4) := (There.set (There.set (There.set (There.set v5.out ⟨w1.heap.size, 0, none⟩ (.int .i64 2)) ⟨w1.heap.size, 1, none⟩ (.int .i64 (prO x a))) ⟨w1.heap.size, 2, none⟩ (.string ByteArray.empty)) ⟨w1.heap.size, 3, none⟩ (.int .i64 0))
            have z0 : Hid (There ((((w3.setCell ⟨w1.heap.size, 0, none⟩ (.int .i64 2)).setCell ⟨w1.heap.size, 1, none⟩ (.int .i64 (prO x a))).setCell ⟨w1.heap.size, 2, none⟩ (.string ByteArray.empty)).setCell ⟨w1.heap.size, 3, none⟩ (.int .i64 0)) (w.heap.size) 4) := (There.set (There.set (There.set (There.set v0.out ⟨w1.heap.size, 0, none⟩ (.int .i64 2)) ⟨w1.heap.size, 1, none⟩ (.int .i64 (prO x a))) ⟨w1.heap.size, 2, none⟩ (.string ByteArray.empty)) ⟨w1.heap.size, 3, none⟩ (.int .i64 0))
            have zE : Hid (Ext w ((((w3.setCell ⟨w1.heap.size, 0, none⟩ (.int .i64 2)).setCell ⟨w1.heap.size, 1, none⟩ (.int .i64 (prO x a))).setCell ⟨w1.heap.size, 2, none⟩ (.string ByteArray.empty)).setCell ⟨w1.heap.size, 3, none⟩ (.int .i64 0))) := (Ext.set (Ext.set (Ext.set (Ext.set hE3.out (p := ⟨w1.heap.size, 0, none⟩) ((show w.heap.size ≤ w1.heap.size by omega)) (.int .i64 2)) (p := ⟨w1.heap.size, 1, none⟩) ((show w.heap.size ≤ w1.heap.size by omega)) (.int .i64 (prO x a))) (p := ⟨w1.heap.size, 2, none⟩) ((show w.heap.size ≤ w1.heap.size by omega)) (.string ByteArray.empty)) (p := ⟨w1.heap.size, 3, none⟩) ((show w.heap.size ≤ w1.heap.size by omega)) (.int .i64 0))
            clear v5 v0 hE3 hx3 c0 c1 c2 c3 u0 u5
            go_wp2
            go_roundw
            case rel => exact ⟨k + 1, prO x a, by omega, by go_num, hs2, kk, z0, z5, zE⟩
            case measure => simp [intOf]; omega
          · have hst := hid (pw_stop (a := a) (k := k + 1) (by rw [hs.out]; exact q) (by omega) (2 + b % 2).toNat (by omega))
            have hm : ∀ w, Calls Tryd.prog 63 #[.int .i64 x, .int .i64 a] w (Give (vR 0 0 ByteArray.empty 3) w) := fun w => by have h := mul_any x a w hin ha; rw [mul_no q] at h; exact h
            have hm := hid hm
            go_wp2_with fail
            refine (hm.out _).mono ?_
            rintro e w3 ⟨rfl, hx3⟩
            unfold vR
            have v5 := hid (There.ext u5.out hx3)
            have v0 := hid (There.ext u0.out hx3)
            have hE3 := hid (Ext.trans hx.out hx3)
            have p0 := v5.out.cell (o := 0) (by omega)
            have f0 := v5.out.free (o := 0) (by omega)
            have p1 := v5.out.cell (o := 1) (by omega)
            have f1 := v5.out.free (o := 1) (by omega)
            have p2 := v5.out.cell (o := 2) (by omega)
            have f2 := v5.out.free (o := 2) (by omega)
            have p3 := v5.out.cell (o := 3) (by omega)
            have f3 := v5.out.free (o := 3) (by omega)
            have lt6 : w1.heap.size < w3.heap.size := World.block_lt_of_cell? w3 _ p0
            have kk := hid (put4 v5.out (.int .i64 0) (.int .i64 0) (.string ByteArray.empty) (.int .i64 3))
            have z5 : Hid (There ((((w3.setCell ⟨w1.heap.size, 0, none⟩ (.int .i64 0)).setCell ⟨w1.heap.size, 1, none⟩ (.int .i64 0)).setCell ⟨w1.heap.size, 2, none⟩ (.string ByteArray.empty)).setCell ⟨w1.heap.size, 3, none⟩ (.int .i64 3)) (w1.heap.size) 4) := (There.set (There.set (There.set (There.set v5.out ⟨w1.heap.size, 0, none⟩ (.int .i64 0)) ⟨w1.heap.size, 1, none⟩ (.int .i64 0)) ⟨w1.heap.size, 2, none⟩ (.string ByteArray.empty)) ⟨w1.heap.size, 3, none⟩ (.int .i64 3))
            have z0 : Hid (There ((((w3.setCell ⟨w1.heap.size, 0, none⟩ (.int .i64 0)).setCell ⟨w1.heap.size, 1, none⟩ (.int .i64 0)).setCell ⟨w1.heap.size, 2, none⟩ (.string ByteArray.empty)).setCell ⟨w1.heap.size, 3, none⟩ (.int .i64 3)) (w.heap.size) 4) := (There.set (There.set (There.set (There.set v0.out ⟨w1.heap.size, 0, none⟩ (.int .i64 0)) ⟨w1.heap.size, 1, none⟩ (.int .i64 0)) ⟨w1.heap.size, 2, none⟩ (.string ByteArray.empty)) ⟨w1.heap.size, 3, none⟩ (.int .i64 3))
            have zE : Hid (Ext w ((((w3.setCell ⟨w1.heap.size, 0, none⟩ (.int .i64 0)).setCell ⟨w1.heap.size, 1, none⟩ (.int .i64 0)).setCell ⟨w1.heap.size, 2, none⟩ (.string ByteArray.empty)).setCell ⟨w1.heap.size, 3, none⟩ (.int .i64 3))) := (Ext.set (Ext.set (Ext.set (Ext.set hE3.out (p := ⟨w1.heap.size, 0, none⟩) ((show w.heap.size ≤ w1.heap.size by omega)) (.int .i64 0)) (p := ⟨w1.heap.size, 1, none⟩) ((show w.heap.size ≤ w1.heap.size by omega)) (.int .i64 0)) (p := ⟨w1.heap.size, 2, none⟩) ((show w.heap.size ≤ w1.heap.size by omega)) (.string ByteArray.empty)) (p := ⟨w1.heap.size, 3, none⟩) ((show w.heap.size ≤ w1.heap.size by omega)) (.int .i64 3))
            have g0 := v0.out.cell (o := 0) (by omega)
            have h0 := v0.out.free (o := 0) (by omega)
            have g1 := v0.out.cell (o := 1) (by omega)
            have h1 := v0.out.free (o := 1) (by omega)
            have g2 := v0.out.cell (o := 2) (by omega)
            have h2 := v0.out.free (o := 2) (by omega)
            have g3 := v0.out.cell (o := 3) (by omega)
            have h3 := v0.out.free (o := 3) (by omega)
            have kf := hid (put4 z0.out (.int .i64 0) (.int .i64 0) (.string ByteArray.empty) (.int .i64 3))
            have zF : Hid (Ext w ((((((((w3.setCell ⟨w1.heap.size, 0, none⟩ (.int .i64 0)).setCell ⟨w1.heap.size, 1, none⟩ (.int .i64 0)).setCell ⟨w1.heap.size, 2, none⟩ (.string ByteArray.empty)).setCell ⟨w1.heap.size, 3, none⟩ (.int .i64 3)).setCell ⟨w.heap.size, 0, none⟩ (.int .i64 0)).setCell ⟨w.heap.size, 1, none⟩ (.int .i64 0)).setCell ⟨w.heap.size, 2, none⟩ (.string ByteArray.empty)).setCell ⟨w.heap.size, 3, none⟩ (.int .i64 3))) := (Ext.set (Ext.set (Ext.set (Ext.set zE.out (p := ⟨w.heap.size, 0, none⟩) ((Nat.le_refl _)) (.int .i64 0)) (p := ⟨w.heap.size, 1, none⟩) ((Nat.le_refl _)) (.int .i64 0)) (p := ⟨w.heap.size, 2, none⟩) ((Nat.le_refl _)) (.string ByteArray.empty)) (p := ⟨w.heap.size, 3, none⟩) ((Nat.le_refl _)) (.int .i64 3))
            have FinR : Hid (powR a b = diedR 3) := by unfold Hid; rw [hR.out, hst.out]; rfl
            clear v5 v0 hE3 hx3 c0 c1 c2 c3 u0 u5 z0 z5 zE kk
            go_wp2
            obtain ⟨k0, k1, k2, k3⟩ := kf.out
            exact bodyPost_ret (v := .agg #[.int .i64 0, .int .i64 0, .string ByteArray.empty, .int .i64 3]) (by simp [results, Tryd.results66, go_sem, k0, k1, k2, k3]) rfl ⟨by rw [FinR.out]; rfl, zF.out⟩
        · have t1 : decide ((k : Int) < (2 + b % 2)) = false := by simpa using hlt
          have ek : (2 + b % 2).toNat = k := by omega
          have FinR : Hid (powR a b = (2, x, ByteArray.empty, 0)) := by unfold Hid; rw [hR.out, ek, hpw.out]; show numR x = _; rw [num_t (isNum_iff.2 hin)]
          clear ek
          have g0 := u0.out.cell (o := 0) (by omega)
          have h0 := u0.out.free (o := 0) (by omega)
          have g1 := u0.out.cell (o := 1) (by omega)
          have h1 := u0.out.free (o := 1) (by omega)
          have g2 := u0.out.cell (o := 2) (by omega)
          have h2 := u0.out.free (o := 2) (by omega)
          have g3 := u0.out.cell (o := 3) (by omega)
          have h3 := u0.out.free (o := 3) (by omega)
          have kf := hid (put4 u0.out (.int .i64 2) (.int .i64 x) (.string ByteArray.empty) (.int .i64 0))
          have zF : Hid (Ext w ((((wr.setCell ⟨w.heap.size, 0, none⟩ (.int .i64 2)).setCell ⟨w.heap.size, 1, none⟩ (.int .i64 x)).setCell ⟨w.heap.size, 2, none⟩ (.string ByteArray.empty)).setCell ⟨w.heap.size, 3, none⟩ (.int .i64 0))) := (Ext.set (Ext.set (Ext.set (Ext.set hx.out (p := ⟨w.heap.size, 0, none⟩) ((Nat.le_refl _)) (.int .i64 2)) (p := ⟨w.heap.size, 1, none⟩) ((Nat.le_refl _)) (.int .i64 x)) (p := ⟨w.heap.size, 2, none⟩) ((Nat.le_refl _)) (.string ByteArray.empty)) (p := ⟨w.heap.size, 3, none⟩) ((Nat.le_refl _)) (.int .i64 0))
          go_wp2
          obtain ⟨k0, k1, k2, k3⟩ := kf.out
          exact bodyPost_ret (v := .agg #[.int .i64 2, .int .i64 x, .string ByteArray.empty, .int .i64 0]) (by simp [results, Tryd.results66, go_sem, k0, k1, k2, k3]) rfl ⟨by rw [FinR.out]; rfl, zF.out⟩
  · have hR : Hid (powR a b = limR (pw a b.toNat).1 (pw a b.toNat).2) := by unfold Hid powR powO powB; rw [if_neg bn, if_neg bn]
    have d2 : decide (sizeN a ≤ 1) = false := by simpa using hsz
    go_enter Tryd.func66, Tryd.ntmps66
    go_wp2_with fail
    refine (size_any _ _ ha).mono ?_
    rintro e w' ⟨rfl, rfl⟩
    go_wp2_with fail
    refine (number_any 1 _).mono ?_
    rintro e w1 ⟨rfl, hx1⟩
    have t0 := hid (There.ext (There.newb w #[.int .i64 0, .int .i64 0, .string { data := #[] }, .int .i64 0] 70 (n := 4) (b := w.heap.size) (by simp) (by decide)) hx1)
    have c0_0_0 : w1.cell? ⟨w.heap.size, 0, none⟩ = some (.int .i64 0) := hx1.cell (by go_simp)
    have c0_0_1 : w1.cell? ⟨w.heap.size, 1, none⟩ = some (.int .i64 0) := hx1.cell (by go_simp)
    have c0_0_2 : w1.cell? ⟨w.heap.size, 2, none⟩ = some (.string { data := #[] }) := hx1.cell (by go_simp)
    have c0_0_3 : w1.cell? ⟨w.heap.size, 3, none⟩ = some (.int .i64 0) := hx1.cell (by go_simp)
    have hE := hid (Ext.trans ((Ext.refl w).alloc_right _) hx1)
    have lt_1 : w.heap.size < w1.heap.size := World.block_lt_of_cell? w1 _ c0_0_0
    clear hx1
    have hne : w.heap.size < w1.heap.size := World.block_lt_of_cell? w1 _ (t0.out.cell (o := 0) (by omega))
    rw [show numR 1 = (2, 1, ByteArray.empty, 0) from rfl]
    unfold rV
    clear c0_0_0 c0_0_1 c0_0_2 c0_0_3
    go_upto_region 6 with fail
    generalize hw_ : (w1.alloc (.cells #[.int .i64 2, .int .i64 1, .string ByteArray.empty, .int .i64 0] 70)) = w2
    have hx2 : Ext (w1.alloc (.cells #[.int .i64 2, .int .i64 1, .string ByteArray.empty, .int .i64 0] 70)) w2 := by rw [hw_]; exact Ext.refl _
    clear hw_
    replace t0 := hid (There.ext (There.ext t0.out ((Ext.refl _).alloc_right _)) hx2)
    have t5 := hid (There.ext (There.newb w1 #[.int .i64 2, .int .i64 1, .string ByteArray.empty, .int .i64 0] 70 (n := 4) (b := w1.heap.size) (by simp) (by decide)) hx2)
    have c1_0_0 : w2.cell? ⟨w1.heap.size, 0, none⟩ = some (.int .i64 2) := hx2.cell (by go_simp)
    have c1_0_1 : w2.cell? ⟨w1.heap.size, 1, none⟩ = some (.int .i64 1) := hx2.cell (by go_simp)
    have c1_0_2 : w2.cell? ⟨w1.heap.size, 2, none⟩ = some (.string ByteArray.empty) := hx2.cell (by go_simp)
    have c1_0_3 : w2.cell? ⟨w1.heap.size, 3, none⟩ = some (.int .i64 0) := hx2.cell (by go_simp)
    replace hE := hid (Ext.trans (hE.out.alloc_right _) hx2)
    clear lt_1
    have lt_1 : w1.heap.size < w2.heap.size := World.block_lt_of_cell? w2 _ c1_0_0
    clear hx2
    have hcs : Hid (w2.cell? ⟨w1.heap.size, 0, none⟩ = some (.int .i64 2) ∧ w2.cell? ⟨w1.heap.size, 1, none⟩ = some (.int .i64 1) ∧ w2.cell? ⟨w1.heap.size, 2, none⟩ = some (.string ByteArray.empty) ∧ w2.cell? ⟨w1.heap.size, 3, none⟩ = some (.int .i64 0)) := ⟨c1_0_0, c1_0_1, c1_0_2, c1_0_3⟩
    clear c1_0_0 c1_0_1 c1_0_2 c1_0_3 lt_1
    go_wp2_with fail
    go_loopw [19] (fun i wr => ∃ (k : Nat) (x : Int), (k : Int) ≤ b ∧ i = .int .i64 k ∧ Hid (pw a k = (x, true)) ∧ Hid (wr.cell? ⟨w1.heap.size, 0, none⟩ = some (.int .i64 2) ∧ wr.cell? ⟨w1.heap.size, 1, none⟩ = some (.int .i64 x) ∧ wr.cell? ⟨w1.heap.size, 2, none⟩ = some (.string ByteArray.empty) ∧ wr.cell? ⟨w1.heap.size, 3, none⟩ = some (.int .i64 0)) ∧ Hid (There wr (w.heap.size) 4) ∧ Hid (There wr (w1.heap.size) 4) ∧ Hid (Ext w wr)) (fun i _ => (b - intOf i).toNat)
    case atStart => exact ⟨0, 1, by omega, rfl, rfl, hcs, t0, t5, hE⟩
    case round =>
      obtain ⟨k, x, hk, rfl, hpw, hc, u0, u5, hx⟩ := hrel
      have hin : -1000000000000000 ≤ x ∧ x ≤ 1000000000000000 := by have h := pw_in a k (by rw [hpw.out]); rw [hpw.out] at h; exact h
      obtain ⟨c0, c1, c2, c3⟩ := hc.out
      have lt5 : w1.heap.size < wr.heap.size := World.block_lt_of_cell? wr _ c0
      by_cases hlt : (k : Int) < b
      · have t1 : decide ((k : Int) < b) = true := by simpa using hlt
        have hs : Hid (pw a (k + 1) = (prO x a, prB x a)) := by unfold Hid; rw [pw_succ, hpw.out]; rfl
        rcases Bool.eq_false_or_eq_true (prB x a) with q | q
        · have hs2 : Hid (pw a (k + 1) = (prO x a, true)) := by unfold Hid; rw [hs.out, q]
          have hm : ∀ w, Calls Tryd.prog 63 #[.int .i64 x, .int .i64 a] w (Give (vR 2 (prO x a) ByteArray.empty 0) w) := fun w => by have h := mul_any x a w hin ha; rw [mul_yes q] at h; exact h
          have hm := hid hm
          go_wp2_with fail
          refine (hm.out _).mono ?_
          rintro e w3 ⟨rfl, hx3⟩
          unfold vR
          have v5 := hid (There.ext u5.out hx3)
          have v0 := hid (There.ext u0.out hx3)
          have hE3 := hid (Ext.trans hx.out hx3)
          have p0 := v5.out.cell (o := 0) (by omega)
          have f0 := v5.out.free (o := 0) (by omega)
          have p1 := v5.out.cell (o := 1) (by omega)
          have f1 := v5.out.free (o := 1) (by omega)
          have p2 := v5.out.cell (o := 2) (by omega)
          have f2 := v5.out.free (o := 2) (by omega)
          have p3 := v5.out.cell (o := 3) (by omega)
          have f3 := v5.out.free (o := 3) (by omega)
          have lt6 : w1.heap.size < w3.heap.size := World.block_lt_of_cell? w3 _ p0
          have kk := hid (put4 v5.out (.int .i64 2) (.int .i64 (prO x a)) (.string ByteArray.empty) (.int .i64 0))
          have z5 : Hid (There ((((w3.setCell ⟨w1.heap.size, 0, none⟩ (.int .i64 2)).setCell ⟨w1.heap.size, 1, none⟩ (.int .i64 (prO x a))).setCell ⟨w1.heap.size, 2, none⟩ (.string ByteArray.empty)).setCell ⟨w1.heap.size, 3, none⟩ (.int .i64 0)) (w1.heap.size) 4) := (There.set (There.set (There.set (There.set v5.out ⟨w1.heap.size, 0, none⟩ (.int .i64 2)) ⟨w1.heap.size, 1, none⟩ (.int .i64 (prO x a))) ⟨w1.heap.size, 2, none⟩ (.string ByteArray.empty)) ⟨w1.heap.size, 3, none⟩ (.int .i64 0))
          have z0 : Hid (There ((((w3.setCell ⟨w1.heap.size, 0, none⟩ (.int .i64 2)).setCell ⟨w1.heap.size, 1, none⟩ (.int .i64 (prO x a))).setCell ⟨w1.heap.size, 2, none⟩ (.string ByteArray.empty)).setCell ⟨w1.heap.size, 3, none⟩ (.int .i64 0)) (w.heap.size) 4) := (There.set (There.set (There.set (There.set v0.out ⟨w1.heap.size, 0, none⟩ (.int .i64 2)) ⟨w1.heap.size, 1, none⟩ (.int .i64 (prO x a))) ⟨w1.heap.size, 2, none⟩ (.string ByteArray.empty)) ⟨w1.heap.size, 3, none⟩ (.int .i64 0))
          have zE : Hid (Ext w ((((w3.setCell ⟨w1.heap.size, 0, none⟩ (.int .i64 2)).setCell ⟨w1.heap.size, 1, none⟩ (.int .i64 (prO x a))).setCell ⟨w1.heap.size, 2, none⟩ (.string ByteArray.empty)).setCell ⟨w1.heap.size, 3, none⟩ (.int .i64 0))) := (Ext.set (Ext.set (Ext.set (Ext.set hE3.out (p := ⟨w1.heap.size, 0, none⟩) ((show w.heap.size ≤ w1.heap.size by omega)) (.int .i64 2)) (p := ⟨w1.heap.size, 1, none⟩) ((show w.heap.size ≤ w1.heap.size by omega)) (.int .i64 (prO x a))) (p := ⟨w1.heap.size, 2, none⟩) ((show w.heap.size ≤ w1.heap.size by omega)) (.string ByteArray.empty)) (p := ⟨w1.heap.size, 3, none⟩) ((show w.heap.size ≤ w1.heap.size by omega)) (.int .i64 0))
          clear v5 v0 hE3 hx3 c0 c1 c2 c3 u0 u5
          go_wp2
          go_roundw
          case rel => exact ⟨k + 1, prO x a, by omega, by go_num, hs2, kk, z0, z5, zE⟩
          case measure => simp [intOf]; omega
        · have hst := hid (pw_stop (a := a) (k := k + 1) (by rw [hs.out]; exact q) (by omega) b.toNat (by omega))
          have hm : ∀ w, Calls Tryd.prog 63 #[.int .i64 x, .int .i64 a] w (Give (vR 0 0 ByteArray.empty 3) w) := fun w => by have h := mul_any x a w hin ha; rw [mul_no q] at h; exact h
          have hm := hid hm
          go_wp2_with fail
          refine (hm.out _).mono ?_
          rintro e w3 ⟨rfl, hx3⟩
          unfold vR
          have v5 := hid (There.ext u5.out hx3)
          have v0 := hid (There.ext u0.out hx3)
          have hE3 := hid (Ext.trans hx.out hx3)
          have p0 := v5.out.cell (o := 0) (by omega)
          have f0 := v5.out.free (o := 0) (by omega)
          have p1 := v5.out.cell (o := 1) (by omega)
          have f1 := v5.out.free (o := 1) (by omega)
          have p2 := v5.out.cell (o := 2) (by omega)
          have f2 := v5.out.free (o := 2) (by omega)
          have p3 := v5.out.cell (o := 3) (by omega)
          have f3 := v5.out.free (o := 3) (by omega)
          have lt6 : w1.heap.size < w3.heap.size := World.block_lt_of_cell? w3 _ p0
          have kk := hid (put4 v5.out (.int .i64 0) (.int .i64 0) (.string ByteArray.empty) (.int .i64 3))
          have z5 : Hid (There ((((w3.setCell ⟨w1.heap.size, 0, none⟩ (.int .i64 0)).setCell ⟨w1.heap.size, 1, none⟩ (.int .i64 0)).setCell ⟨w1.heap.size, 2, none⟩ (.string ByteArray.empty)).setCell ⟨w1.heap.size, 3, none⟩ (.int .i64 3)) (w1.heap.size) 4) := (There.set (There.set (There.set (There.set v5.out ⟨w1.heap.size, 0, none⟩ (.int .i64 0)) ⟨w1.heap.size, 1, none⟩ (.int .i64 0)) ⟨w1.heap.size, 2, none⟩ (.string ByteArray.empty)) ⟨w1.heap.size, 3, none⟩ (.int .i64 3))
          have z0 : Hid (There ((((w3.setCell ⟨w1.heap.size, 0, none⟩ (.int .i64 0)).setCell ⟨w1.heap.size, 1, none⟩ (.int .i64 0)).setCell ⟨w1.heap.size, 2, none⟩ (.string ByteArray.empty)).setCell ⟨w1.heap.size, 3, none⟩ (.int .i64 3)) (w.heap.size) 4) := (There.set (There.set (There.set (There.set v0.out ⟨w1.heap.size, 0, none⟩ (.int .i64 0)) ⟨w1.heap.size, 1, none⟩ (.int .i64 0)) ⟨w1.heap.size, 2, none⟩ (.string ByteArray.empty)) ⟨w1.heap.size, 3, none⟩ (.int .i64 3))
          have zE : Hid (Ext w ((((w3.setCell ⟨w1.heap.size, 0, none⟩ (.int .i64 0)).setCell ⟨w1.heap.size, 1, none⟩ (.int .i64 0)).setCell ⟨w1.heap.size, 2, none⟩ (.string ByteArray.empty)).setCell ⟨w1.heap.size, 3, none⟩ (.int .i64 3))) := (Ext.set (Ext.set (Ext.set (Ext.set hE3.out (p := ⟨w1.heap.size, 0, none⟩) ((show w.heap.size ≤ w1.heap.size by omega)) (.int .i64 0)) (p := ⟨w1.heap.size, 1, none⟩) ((show w.heap.size ≤ w1.heap.size by omega)) (.int .i64 0)) (p := ⟨w1.heap.size, 2, none⟩) ((show w.heap.size ≤ w1.heap.size by omega)) (.string ByteArray.empty)) (p := ⟨w1.heap.size, 3, none⟩) ((show w.heap.size ≤ w1.heap.size by omega)) (.int .i64 3))
          have g0 := v0.out.cell (o := 0) (by omega)
          have h0 := v0.out.free (o := 0) (by omega)
          have g1 := v0.out.cell (o := 1) (by omega)
          have h1 := v0.out.free (o := 1) (by omega)
          have g2 := v0.out.cell (o := 2) (by omega)
          have h2 := v0.out.free (o := 2) (by omega)
          have g3 := v0.out.cell (o := 3) (by omega)
          have h3 := v0.out.free (o := 3) (by omega)
          have kf := hid (put4 z0.out (.int .i64 0) (.int .i64 0) (.string ByteArray.empty) (.int .i64 3))
          have zF : Hid (Ext w ((((((((w3.setCell ⟨w1.heap.size, 0, none⟩ (.int .i64 0)).setCell ⟨w1.heap.size, 1, none⟩ (.int .i64 0)).setCell ⟨w1.heap.size, 2, none⟩ (.string ByteArray.empty)).setCell ⟨w1.heap.size, 3, none⟩ (.int .i64 3)).setCell ⟨w.heap.size, 0, none⟩ (.int .i64 0)).setCell ⟨w.heap.size, 1, none⟩ (.int .i64 0)).setCell ⟨w.heap.size, 2, none⟩ (.string ByteArray.empty)).setCell ⟨w.heap.size, 3, none⟩ (.int .i64 3))) := (Ext.set (Ext.set (Ext.set (Ext.set zE.out (p := ⟨w.heap.size, 0, none⟩) ((Nat.le_refl _)) (.int .i64 0)) (p := ⟨w.heap.size, 1, none⟩) ((Nat.le_refl _)) (.int .i64 0)) (p := ⟨w.heap.size, 2, none⟩) ((Nat.le_refl _)) (.string ByteArray.empty)) (p := ⟨w.heap.size, 3, none⟩) ((Nat.le_refl _)) (.int .i64 3))
          have FinR : Hid (powR a b = diedR 3) := by unfold Hid; rw [hR.out, hst.out]; rfl
          clear v5 v0 hE3 hx3 c0 c1 c2 c3 u0 u5 z0 z5 zE kk
          go_wp2
          obtain ⟨k0, k1, k2, k3⟩ := kf.out
          exact bodyPost_ret (v := .agg #[.int .i64 0, .int .i64 0, .string ByteArray.empty, .int .i64 3]) (by simp [results, Tryd.results66, go_sem, k0, k1, k2, k3]) rfl ⟨by rw [FinR.out]; rfl, zF.out⟩
      · have t1 : decide ((k : Int) < b) = false := by simpa using hlt
        have ek : b.toNat = k := by omega
        have FinR : Hid (powR a b = (2, x, ByteArray.empty, 0)) := by unfold Hid; rw [hR.out, ek, hpw.out]; show numR x = _; rw [num_t (isNum_iff.2 hin)]
        clear ek
        have g0 := u0.out.cell (o := 0) (by omega)
        have h0 := u0.out.free (o := 0) (by omega)
        have g1 := u0.out.cell (o := 1) (by omega)
        have h1 := u0.out.free (o := 1) (by omega)
        have g2 := u0.out.cell (o := 2) (by omega)
        have h2 := u0.out.free (o := 2) (by omega)
        have g3 := u0.out.cell (o := 3) (by omega)
        have h3 := u0.out.free (o := 3) (by omega)
        have kf := hid (put4 u0.out (.int .i64 2) (.int .i64 x) (.string ByteArray.empty) (.int .i64 0))
        have zF : Hid (Ext w ((((wr.setCell ⟨w.heap.size, 0, none⟩ (.int .i64 2)).setCell ⟨w.heap.size, 1, none⟩ (.int .i64 x)).setCell ⟨w.heap.size, 2, none⟩ (.string ByteArray.empty)).setCell ⟨w.heap.size, 3, none⟩ (.int .i64 0))) := (Ext.set (Ext.set (Ext.set (Ext.set hx.out (p := ⟨w.heap.size, 0, none⟩) ((Nat.le_refl _)) (.int .i64 2)) (p := ⟨w.heap.size, 1, none⟩) ((Nat.le_refl _)) (.int .i64 x)) (p := ⟨w.heap.size, 2, none⟩) ((Nat.le_refl _)) (.string ByteArray.empty)) (p := ⟨w.heap.size, 3, none⟩) ((Nat.le_refl _)) (.int .i64 0))
        go_wp2
        obtain ⟨k0, k1, k2, k3⟩ := kf.out
        exact bodyPost_ret (v := .agg #[.int .i64 2, .int .i64 x, .string ByteArray.empty, .int .i64 0]) (by simp [results, Tryd.results66, go_sem, k0, k1, k2, k3]) rfl ⟨by rw [FinR.out]; rfl, zF.out⟩
end Go.Proofs.YtkjcfnmbnddhjaaDoor
