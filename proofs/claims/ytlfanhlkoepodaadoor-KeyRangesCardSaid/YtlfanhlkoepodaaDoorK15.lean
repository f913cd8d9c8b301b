/-
  The value of the first key in bytes: the reference.
-/
import Derived.Test.YtlfanhlkoepodaaDoorK14
import Derived.Deep.RegionWith
namespace Go.Proofs.YtlfanhlkoepodaaDoor
open Go.RowKit
set_option linter.unusedVariables false
set_option linter.unusedSimpArgs false
set_option maxRecDepth 100000 in
set_option maxHeartbeats 4000000 in
theorem one_any (s : ByteArray) (hs : s.size ≤ 4000000) (w : World) : Calls Tryd.prog 67 #[.string s] w (GiveCut (cutS s.toList) w) := by
  by_cases h0 : s.size = 0
  · obtain rfl := str_nil h0
    rw [show cutS (ByteArray.toList { data := #[] }) = none by rw [show ByteArray.toList { data := #[] } = [] from emp_list]; rfl]
    clear h0
    go_enter Tryd.func67, Tryd.ntmps67
    go_wp2
    exact bodyPost_ret (v := .tuple #[.agg #[.int .i64 0, .int .i64 0, .string { data := #[] }], .int .i64 0]) (by simp [results, Tryd.results67, go_sem]) rfl (GiveCut.none_ ((Ext.refl w).alloc_right _))
  have h1 : 0 < s.size := by omega
  obtain ⟨em1, em2⟩ := full_facts h0
  have hb := (s[0]'h1).toNat_lt
  clear h0
  by_cases k0 : (s[0]'h1).toNat = 0
  · rw [cutS_0 h1 k0]
    have e0 : ((s[0]'h1).toNat : Int) = 0 := by omega
    clear k0
    go_enter Tryd.func67, Tryd.ntmps67
    go_upto_region 3 with fail
    generalize hw_ : w.alloc (.cells #[.int .i64 0, .int .i64 0, .string { data := #[] }] 23) = w1
    have ht1 : Hid (There w1 w.heap.size 3) := by rw [← hw_]; exact There.new w _ _ (by decide)
    have hE1 : Hid (Ext w w1) := by rw [← hw_]; exact (Ext.refl w).alloc_right _
    have lt1 : w.heap.size < w1.heap.size := by rw [← hw_]; simp
    clear hw_
    have ht := ht1
    have hEw := hE1
    have p0 := ht.out.cell (o := 0) (by omega)
    have f0 := ht.out.free (o := 0) (by omega)
    have p1 := ht.out.cell (o := 1) (by omega)
    have f1 := ht.out.free (o := 1) (by omega)
    have p2 := ht.out.cell (o := 2) (by omega)
    have f2 := ht.out.free (o := 2) (by omega)
    have kk := hid (put3 ht.out (.int .i64 0) (.int .i64 0) (.string { data := #[] }))
    have Fin := hid (((hEw.out.set (p := ⟨w.heap.size, 0, none⟩) (Nat.le_refl _) (.int .i64 0)).set (p := ⟨w.heap.size, 1, none⟩) (Nat.le_refl _) (.int .i64 0)).set (p := ⟨w.heap.size, 2, none⟩) (Nat.le_refl _) (.string { data := #[] }))
    clear ht hEw
    go_wp2
    obtain ⟨k0, k1, k2⟩ := kk.out
    exact bodyPost_ret (v := .tuple #[.agg #[.int .i64 0, .int .i64 0, .string { data := #[] }], .int .i64 1]) (by simp [results, Tryd.results67, go_sem, k0, k1, k2]) rfl (GiveCut.some_ 0 0 [] 1 Fin.out)
  by_cases k4 : (s[0]'h1).toNat = 4
  · rw [cutS_4 h1 k4]
    have e0 : ((s[0]'h1).toNat : Int) = 4 := by omega
    clear k0 k4
    have hc := hid (fun w => rtext_any s h1 hs w)
    generalize cutT [] 1 (s.toList.drop 1) = R at *
    go_enter Tryd.func67, Tryd.ntmps67
    go_upto_region 3 with fail
    generalize hw_ : w.alloc (.cells #[.int .i64 0, .int .i64 0, .string { data := #[] }] 23) = w1
    have ht1 : Hid (There w1 w.heap.size 3) := by rw [← hw_]; exact There.new w _ _ (by decide)
    have hE1 : Hid (Ext w w1) := by rw [← hw_]; exact (Ext.refl w).alloc_right _
    have lt1 : w.heap.size < w1.heap.size := by rw [← hw_]; simp
    clear hw_
    cases R with
    | none =>
      go_wp2_with fail
      refine (hc.out _).mono ?_
      rintro e w2 ⟨rfl, hx2⟩
      unfold vV
      have ht := hid (ht1.out.ext hx2)
      have hEw := hid (hE1.out.trans hx2)
      clear hx2
      have p0 := ht.out.cell (o := 0) (by omega)
      have f0 := ht.out.free (o := 0) (by omega)
      have p1 := ht.out.cell (o := 1) (by omega)
      have f1 := ht.out.free (o := 1) (by omega)
      have p2 := ht.out.cell (o := 2) (by omega)
      have f2 := ht.out.free (o := 2) (by omega)
      have kk := hid (put3 ht.out (.int .i64 0) (.int .i64 0) (.string { data := #[] }))
      have Fin := hid (((hEw.out.set (p := ⟨w.heap.size, 0, none⟩) (Nat.le_refl _) (.int .i64 0)).set (p := ⟨w.heap.size, 1, none⟩) (Nat.le_refl _) (.int .i64 0)).set (p := ⟨w.heap.size, 2, none⟩) (Nat.le_refl _) (.string { data := #[] }))
      clear ht hEw
      go_wp2
      obtain ⟨k0, k1, k2⟩ := kk.out
      exact bodyPost_ret (v := .tuple #[.agg #[.int .i64 0, .int .i64 0, .string { data := #[] }], .int .i64 0]) (by simp [results, Tryd.results67, go_sem, k0, k1, k2]) rfl (GiveCut.none_ Fin.out)
    | some x =>
      obtain ⟨t, q⟩ := x
      go_wp2_with fail
      refine (hc.out _).mono ?_
      rintro e w2 ⟨rfl, hx2⟩
      unfold vV
      have ht := hid (ht1.out.ext hx2)
      have hEw := hid (hE1.out.trans hx2)
      clear hx2
      have p0 := ht.out.cell (o := 0) (by omega)
      have f0 := ht.out.free (o := 0) (by omega)
      have p1 := ht.out.cell (o := 1) (by omega)
      have f1 := ht.out.free (o := 1) (by omega)
      have p2 := ht.out.cell (o := 2) (by omega)
      have f2 := ht.out.free (o := 2) (by omega)
      have kk := hid (put3 ht.out (.int .i64 4) (.int .i64 0) (.string (strB t)))
      have Fin := hid (((hEw.out.set (p := ⟨w.heap.size, 0, none⟩) (Nat.le_refl _) (.int .i64 4)).set (p := ⟨w.heap.size, 1, none⟩) (Nat.le_refl _) (.int .i64 0)).set (p := ⟨w.heap.size, 2, none⟩) (Nat.le_refl _) (.string (strB t)))
      clear ht hEw
      go_wp2
      obtain ⟨k0, k1, k2⟩ := kk.out
      exact bodyPost_ret (v := .tuple #[.agg #[.int .i64 4, .int .i64 0, .string (strB t)], .int .i64 (q : Nat)]) (by simp [results, Tryd.results67, go_sem, k0, k1, k2]) rfl (GiveCut.some_ 4 0 t q Fin.out)
  by_cases k5 : 4 < (s[0]'h1).toNat
  · rw [cutS_no h1 k5]
    obtain ⟨x, hx⟩ : ∃ x : Int, x = ((s[0]'h1).toNat : Int) := ⟨_, rfl⟩
    have x5 : 4 < x := by omega
    have d0 : (x == 0) = false := by simp; omega
    have d1 : (x == 1) = false := by simp; omega
    have d2 : (x == 2) = false := by simp; omega
    have d3 : (x == 3) = false := by simp; omega
    have d4 : (x == 4) = false := by simp; omega
    replace hx := hx.symm
    clear k0 k4 k5
    go_enter Tryd.func67, Tryd.ntmps67
    go_upto_region 3 with fail
    generalize hw_ : w.alloc (.cells #[.int .i64 0, .int .i64 0, .string { data := #[] }] 23) = w1
    have ht1 : Hid (There w1 w.heap.size 3) := by rw [← hw_]; exact There.new w _ _ (by decide)
    have hE1 : Hid (Ext w w1) := by rw [← hw_]; exact (Ext.refl w).alloc_right _
    have lt1 : w.heap.size < w1.heap.size := by rw [← hw_]; simp
    clear hw_
    have ht := ht1
    have hEw := hE1
    have p0 := ht.out.cell (o := 0) (by omega)
    have f0 := ht.out.free (o := 0) (by omega)
    have p1 := ht.out.cell (o := 1) (by omega)
    have f1 := ht.out.free (o := 1) (by omega)
    have p2 := ht.out.cell (o := 2) (by omega)
    have f2 := ht.out.free (o := 2) (by omega)
    have kk := hid (put3 ht.out (.int .i64 0) (.int .i64 0) (.string { data := #[] }))
    have Fin := hid (((hEw.out.set (p := ⟨w.heap.size, 0, none⟩) (Nat.le_refl _) (.int .i64 0)).set (p := ⟨w.heap.size, 1, none⟩) (Nat.le_refl _) (.int .i64 0)).set (p := ⟨w.heap.size, 2, none⟩) (Nat.le_refl _) (.string { data := #[] }))
    clear ht hEw
    go_wp2
    obtain ⟨k0, k1, k2⟩ := kk.out
    exact bodyPost_ret (v := .tuple #[.agg #[.int .i64 0, .int .i64 0, .string { data := #[] }], .int .i64 0]) (by simp [results, Tryd.results67, go_sem, k0, k1, k2]) rfl (GiveCut.none_ Fin.out)
  have hk3 : (s[0]'h1).toNat = 1 ∨ (s[0]'h1).toNat = 2 ∨ (s[0]'h1).toNat = 3 := by omega
  clear k0 k4 k5
  rcases hk3 with hk3 | hk3 | hk3
  · rw [cutS_n h1 hk3 (by decide) (show sizeK 1 = 1 by decide)]
    rw [show ((1 : Nat) : Int) = 1 from rfl]
    have e0 : ((s[0]'h1).toNat : Int) = 1 := by omega
    clear hk3
    by_cases hz : s.size < 1 + 1
    · rw [if_pos hz]
      have dz : decide ((s.size : Int) < 2) = true := by simp; omega
      clear hz
      go_enter Tryd.func67, Tryd.ntmps67
      go_upto_region 3 with fail
      generalize hw_ : w.alloc (.cells #[.int .i64 0, .int .i64 0, .string { data := #[] }] 23) = w1
      have ht1 : Hid (There w1 w.heap.size 3) := by rw [← hw_]; exact There.new w _ _ (by decide)
      have hE1 : Hid (Ext w w1) := by rw [← hw_]; exact (Ext.refl w).alloc_right _
      have lt1 : w.heap.size < w1.heap.size := by rw [← hw_]; simp
      clear hw_
      have ht := ht1
      have hEw := hE1
      have p0 := ht.out.cell (o := 0) (by omega)
      have f0 := ht.out.free (o := 0) (by omega)
      have p1 := ht.out.cell (o := 1) (by omega)
      have f1 := ht.out.free (o := 1) (by omega)
      have p2 := ht.out.cell (o := 2) (by omega)
      have f2 := ht.out.free (o := 2) (by omega)
      have kk := hid (put3 ht.out (.int .i64 0) (.int .i64 0) (.string { data := #[] }))
      have Fin := hid (((hEw.out.set (p := ⟨w.heap.size, 0, none⟩) (Nat.le_refl _) (.int .i64 0)).set (p := ⟨w.heap.size, 1, none⟩) (Nat.le_refl _) (.int .i64 0)).set (p := ⟨w.heap.size, 2, none⟩) (Nat.le_refl _) (.string { data := #[] }))
      clear ht hEw
      go_wp2
      obtain ⟨k0, k1, k2⟩ := kk.out
      exact bodyPost_ret (v := .tuple #[.agg #[.int .i64 0, .int .i64 0, .string { data := #[] }], .int .i64 0]) (by simp [results, Tryd.results67, go_sem, k0, k1, k2]) rfl (GiveCut.none_ Fin.out)
    rw [if_neg hz]
    have dz : decide ((s.size : Int) < 2) = false := by simp; omega
    have h63 : beN ((s.toList.drop 1).take 1) < 9223372036854775808 := by have := beN_lt7 (l := (s.toList.drop 1).take 1) (by rw [List.length_take]; omega); omega
    have hz1 := ext1_size s hz
    have sl : ∀ wx, (Instr.slice 9 (.string s) (some (.int .i64 1)) (some (.int .i64 2)) none).run Tryd.prog wx = .ok (.string (s.extract 1 2)) wx := by
      intro wx
      rw [run_slice_string_if (P := Tryd.prog) wx 9 s .i64 .i64 1 2 Tryd.underlying9, if_pos ⟨by omega, by omega⟩, if_pos ⟨by omega, by omega⟩]
      rfl
    have hc := hid (fun w => rread_any (s.extract 1 2) (by rw [show 2 = 1 + 1 from rfl, hz1]; omega) (by rw [show (s.extract 1 2).toList = (s.toList.drop 1).take 1 from ext1_list s 1]; exact h63) w)
    rw [show (s.extract 1 2).toList = (s.toList.drop 1).take 1 from ext1_list s 1] at hc
    generalize s.extract 1 2 = S at *
    rw [show numK 1 (s.toList.drop 1) = (beN ((s.toList.drop 1).take 1) : Int) from rfl]
    generalize beN ((s.toList.drop 1).take 1) = Y at *
    have hv := hid (valE_e 1 (Y : Int))
    rcases Bool.eq_false_or_eq_true (isV 1 (Y : Int) ByteArray.empty) with hV | hV
    · rw [if_pos (by rw [hV])]
      have hve : valE 1 (Y : Int) { data := #[] } = 0 := by rw [hv.out, hV]; rfl
      clear hV hv
      replace hve := hid hve
      go_enter Tryd.func67, Tryd.ntmps67
      go_upto_region 3 with fail
      generalize hw_ : w.alloc (.cells #[.int .i64 0, .int .i64 0, .string { data := #[] }] 23) = w1
      have ht1 : Hid (There w1 w.heap.size 3) := by rw [← hw_]; exact There.new w _ _ (by decide)
      have hE1 : Hid (Ext w w1) := by rw [← hw_]; exact (Ext.refl w).alloc_right _
      have lt1 : w.heap.size < w1.heap.size := by rw [← hw_]; simp
      clear hw_
      go_upto_region 18 with fail
      go_region_with (go_at_call 90; refine (hc.out _).mono ?_; rintro e w' ⟨rfl, rfl⟩)
      all_goals go_upto_region 21 with fail
      all_goals
        generalize hw_ : (w1.alloc (.cells #[.int .i64 1, .int .i64 (Y : Int), .string { data := #[] }] 23)).drew = w2
        have hx2 : Ext (w1.alloc (.cells #[.int .i64 1, .int .i64 (Y : Int), .string { data := #[] }] 23)) w2 := by rw [← hw_]; exact (Ext.refl _).drew_right
        clear hw_
        have u0 : w2.cell? ⟨w1.heap.size, 0, none⟩ = some (.int .i64 1) := hx2.cell (by go_simp)
        have u1 : w2.cell? ⟨w1.heap.size, 1, none⟩ = some (.int .i64 (Y : Int)) := hx2.cell (by go_simp)
        have u2 : w2.cell? ⟨w1.heap.size, 2, none⟩ = some (.string { data := #[] }) := hx2.cell (by go_simp)
        replace hx2 := hid (((Ext.refl w1).alloc_right _).trans hx2)
        have ht2 := hid (ht1.out.ext hx2.out)
        have hE2 := hid (hE1.out.trans hx2.out)
        clear ht1 hE1 hx2 hc
        have lt2 : w1.heap.size < w2.heap.size := World.block_lt_of_cell? w2 _ u0
        have lt3 : w.heap.size < w2.heap.size := by omega
        go_wp2_with fail
        refine (rValidate_any 1 (Y : Int) { data := #[] } w2).mono ?_
        rw [hve.out]
        rintro e w3 ⟨rfl, hx3⟩
        replace u0 := hx3.cell u0
        replace u1 := hx3.cell u1
        replace u2 := hx3.cell u2
        have ht := hid (ht2.out.ext hx3)
        have hEw := hid (hE2.out.trans hx3)
        clear hx3 ht2 hE2 lt2 lt3
        have lt2 : w1.heap.size < w3.heap.size := World.block_lt_of_cell? w3 _ u0
        have lt3 : w.heap.size < w3.heap.size := by omega
        have p0 := ht.out.cell (o := 0) (by omega)
        have f0 := ht.out.free (o := 0) (by omega)
        have p1 := ht.out.cell (o := 1) (by omega)
        have f1 := ht.out.free (o := 1) (by omega)
        have p2 := ht.out.cell (o := 2) (by omega)
        have f2 := ht.out.free (o := 2) (by omega)
        have kk := hid (put3 ht.out (.int .i64 1) (.int .i64 (Y : Int)) (.string { data := #[] }))
        have Fin := hid (((hEw.out.set (p := ⟨w.heap.size, 0, none⟩) (Nat.le_refl _) (.int .i64 1)).set (p := ⟨w.heap.size, 1, none⟩) (Nat.le_refl _) (.int .i64 (Y : Int))).set (p := ⟨w.heap.size, 2, none⟩) (Nat.le_refl _) (.string { data := #[] }))
        clear ht hEw
        go_wp2
        obtain ⟨k0, k1, k2⟩ := kk.out
        exact bodyPost_ret (v := .tuple #[.agg #[.int .i64 1, .int .i64 (Y : Int), .string { data := #[] }], .int .i64 2]) (by simp [results, Tryd.results67, go_sem, k0, k1, k2]) rfl (GiveCut.some_ 1 (Y : Int) [] 2 Fin.out)
    · rw [if_neg (by rw [hV]; simp)]
      have hve : valE 1 (Y : Int) { data := #[] } = 1 := by rw [hv.out, hV]; rfl
      clear hV hv
      replace hve := hid hve
      go_enter Tryd.func67, Tryd.ntmps67
      go_upto_region 3 with fail
      generalize hw_ : w.alloc (.cells #[.int .i64 0, .int .i64 0, .string { data := #[] }] 23) = w1
      have ht1 : Hid (There w1 w.heap.size 3) := by rw [← hw_]; exact There.new w _ _ (by decide)
      have hE1 : Hid (Ext w w1) := by rw [← hw_]; exact (Ext.refl w).alloc_right _
      have lt1 : w.heap.size < w1.heap.size := by rw [← hw_]; simp
      clear hw_
      go_upto_region 18 with fail
      go_region_with (go_at_call 90; refine (hc.out _).mono ?_; rintro e w' ⟨rfl, rfl⟩)
      all_goals go_upto_region 21 with fail
      all_goals
        generalize hw_ : (w1.alloc (.cells #[.int .i64 1, .int .i64 (Y : Int), .string { data := #[] }] 23)).drew = w2
        have hx2 : Ext (w1.alloc (.cells #[.int .i64 1, .int .i64 (Y : Int), .string { data := #[] }] 23)) w2 := by rw [← hw_]; exact (Ext.refl _).drew_right
        clear hw_
        have u0 : w2.cell? ⟨w1.heap.size, 0, none⟩ = some (.int .i64 1) := hx2.cell (by go_simp)
        have u1 : w2.cell? ⟨w1.heap.size, 1, none⟩ = some (.int .i64 (Y : Int)) := hx2.cell (by go_simp)
        have u2 : w2.cell? ⟨w1.heap.size, 2, none⟩ = some (.string { data := #[] }) := hx2.cell (by go_simp)
        replace hx2 := hid (((Ext.refl w1).alloc_right _).trans hx2)
        have ht2 := hid (ht1.out.ext hx2.out)
        have hE2 := hid (hE1.out.trans hx2.out)
        clear ht1 hE1 hx2 hc
        have lt2 : w1.heap.size < w2.heap.size := World.block_lt_of_cell? w2 _ u0
        have lt3 : w.heap.size < w2.heap.size := by omega
        go_wp2_with fail
        refine (rValidate_any 1 (Y : Int) { data := #[] } w2).mono ?_
        rw [hve.out]
        rintro e w3 ⟨rfl, hx3⟩
        replace u0 := hx3.cell u0
        replace u1 := hx3.cell u1
        replace u2 := hx3.cell u2
        have ht := hid (ht2.out.ext hx3)
        have hEw := hid (hE2.out.trans hx3)
        clear hx3 ht2 hE2 lt2 lt3
        have lt2 : w1.heap.size < w3.heap.size := World.block_lt_of_cell? w3 _ u0
        have lt3 : w.heap.size < w3.heap.size := by omega
        have p0 := ht.out.cell (o := 0) (by omega)
        have f0 := ht.out.free (o := 0) (by omega)
        have p1 := ht.out.cell (o := 1) (by omega)
        have f1 := ht.out.free (o := 1) (by omega)
        have p2 := ht.out.cell (o := 2) (by omega)
        have f2 := ht.out.free (o := 2) (by omega)
        have kk := hid (put3 ht.out (.int .i64 0) (.int .i64 0) (.string { data := #[] }))
        have Fin := hid (((hEw.out.set (p := ⟨w.heap.size, 0, none⟩) (Nat.le_refl _) (.int .i64 0)).set (p := ⟨w.heap.size, 1, none⟩) (Nat.le_refl _) (.int .i64 0)).set (p := ⟨w.heap.size, 2, none⟩) (Nat.le_refl _) (.string { data := #[] }))
        clear ht hEw
        go_wp2
        obtain ⟨k0, k1, k2⟩ := kk.out
        exact bodyPost_ret (v := .tuple #[.agg #[.int .i64 0, .int .i64 0, .string { data := #[] }], .int .i64 0]) (by simp [results, Tryd.results67, go_sem, k0, k1, k2]) rfl (GiveCut.none_ Fin.out)
  · rw [cutS_n h1 hk3 (by decide) (show sizeK 2 = 8 by decide)]
    rw [show ((2 : Nat) : Int) = 2 from rfl]
    have e0 : ((s[0]'h1).toNat : Int) = 2 := by omega
    clear hk3
    by_cases hz : s.size < 1 + 8
    · rw [if_pos hz]
      have dz : decide ((s.size : Int) < 9) = true := by simp; omega
      clear hz
      go_enter Tryd.func67, Tryd.ntmps67
      go_upto_region 3 with fail
      generalize hw_ : w.alloc (.cells #[.int .i64 0, .int .i64 0, .string { data := #[] }] 23) = w1
      have ht1 : Hid (There w1 w.heap.size 3) := by rw [← hw_]; exact There.new w _ _ (by decide)
      have hE1 : Hid (Ext w w1) := by rw [← hw_]; exact (Ext.refl w).alloc_right _
      have lt1 : w.heap.size < w1.heap.size := by rw [← hw_]; simp
      clear hw_
      have ht := ht1
      have hEw := hE1
      have p0 := ht.out.cell (o := 0) (by omega)
      have f0 := ht.out.free (o := 0) (by omega)
      have p1 := ht.out.cell (o := 1) (by omega)
      have f1 := ht.out.free (o := 1) (by omega)
      have p2 := ht.out.cell (o := 2) (by omega)
      have f2 := ht.out.free (o := 2) (by omega)
      have kk := hid (put3 ht.out (.int .i64 0) (.int .i64 0) (.string { data := #[] }))
      have Fin := hid (((hEw.out.set (p := ⟨w.heap.size, 0, none⟩) (Nat.le_refl _) (.int .i64 0)).set (p := ⟨w.heap.size, 1, none⟩) (Nat.le_refl _) (.int .i64 0)).set (p := ⟨w.heap.size, 2, none⟩) (Nat.le_refl _) (.string { data := #[] }))
      clear ht hEw
      go_wp2
      obtain ⟨k0, k1, k2⟩ := kk.out
      exact bodyPost_ret (v := .tuple #[.agg #[.int .i64 0, .int .i64 0, .string { data := #[] }], .int .i64 0]) (by simp [results, Tryd.results67, go_sem, k0, k1, k2]) rfl (GiveCut.none_ Fin.out)
    rw [if_neg hz]
    have dz : decide ((s.size : Int) < 9) = false := by simp; omega
    obtain ⟨q1, q2⟩ := first8 s hz
    have h9 : 1 < s.size := by omega
    have hb1 := (s[1]'h9).toNat_lt
    by_cases g : 127 < (s[1]'h9).toNat
    · have dg : decide ((127 : Int) < ((s[1]'h9).toNat : Int)) = true := by simp; omega
      rw [show numK 2 (s.toList.drop 1) = (beN ((s.toList.drop 1).take 8) : Int) - 1000000000000000 from rfl, if_neg (by rw [isV_2, num_no (by omega)]; simp)]
      clear hz q1 q2 g
      go_enter Tryd.func67, Tryd.ntmps67
      go_upto_region 3 with fail
      generalize hw_ : w.alloc (.cells #[.int .i64 0, .int .i64 0, .string { data := #[] }] 23) = w1
      have ht1 : Hid (There w1 w.heap.size 3) := by rw [← hw_]; exact There.new w _ _ (by decide)
      have hE1 : Hid (Ext w w1) := by rw [← hw_]; exact (Ext.refl w).alloc_right _
      have lt1 : w.heap.size < w1.heap.size := by rw [← hw_]; simp
      clear hw_
      have ht := ht1
      have hEw := hE1
      have p0 := ht.out.cell (o := 0) (by omega)
      have f0 := ht.out.free (o := 0) (by omega)
      have p1 := ht.out.cell (o := 1) (by omega)
      have f1 := ht.out.free (o := 1) (by omega)
      have p2 := ht.out.cell (o := 2) (by omega)
      have f2 := ht.out.free (o := 2) (by omega)
      have kk := hid (put3 ht.out (.int .i64 0) (.int .i64 0) (.string { data := #[] }))
      have Fin := hid (((hEw.out.set (p := ⟨w.heap.size, 0, none⟩) (Nat.le_refl _) (.int .i64 0)).set (p := ⟨w.heap.size, 1, none⟩) (Nat.le_refl _) (.int .i64 0)).set (p := ⟨w.heap.size, 2, none⟩) (Nat.le_refl _) (.string { data := #[] }))
      clear ht hEw
      go_wp2
      obtain ⟨k0, k1, k2⟩ := kk.out
      exact bodyPost_ret (v := .tuple #[.agg #[.int .i64 0, .int .i64 0, .string { data := #[] }], .int .i64 0]) (by simp [results, Tryd.results67, go_sem, k0, k1, k2]) rfl (GiveCut.none_ Fin.out)
    have dg : decide ((127 : Int) < ((s[1]'h9).toNat : Int)) = false := by simp; omega
    have h63 : beN ((s.toList.drop 1).take 8) < 9223372036854775808 := by omega
    clear q1 q2 g
    have hz1 := ext1_size s hz
    have sl : ∀ wx, (Instr.slice 9 (.string s) (some (.int .i64 1)) (some (.int .i64 9)) none).run Tryd.prog wx = .ok (.string (s.extract 1 9)) wx := by
      intro wx
      rw [run_slice_string_if (P := Tryd.prog) wx 9 s .i64 .i64 1 9 Tryd.underlying9, if_pos ⟨by omega, by omega⟩, if_pos ⟨by omega, by omega⟩]
      rfl
    have hc := hid (fun w => rread_any (s.extract 1 9) (by rw [show 9 = 1 + 8 from rfl, hz1]; omega) (by rw [show (s.extract 1 9).toList = (s.toList.drop 1).take 8 from ext1_list s 8]; exact h63) w)
    rw [show (s.extract 1 9).toList = (s.toList.drop 1).take 8 from ext1_list s 8] at hc
    generalize s.extract 1 9 = S at *
    rw [show numK 2 (s.toList.drop 1) = (beN ((s.toList.drop 1).take 8) : Int) - 1000000000000000 from rfl]
    generalize beN ((s.toList.drop 1).take 8) = Y at *
    have hv := hid (valE_e 2 ((Y : Int) - 1000000000000000))
    rcases Bool.eq_false_or_eq_true (isV 2 ((Y : Int) - 1000000000000000) ByteArray.empty) with hV | hV
    · rw [if_pos (by rw [hV])]
      have hve : valE 2 ((Y : Int) - 1000000000000000) { data := #[] } = 0 := by rw [hv.out, hV]; rfl
      clear hV hv
      replace hve := hid hve
      go_enter Tryd.func67, Tryd.ntmps67
      go_upto_region 3 with fail
      generalize hw_ : w.alloc (.cells #[.int .i64 0, .int .i64 0, .string { data := #[] }] 23) = w1
      have ht1 : Hid (There w1 w.heap.size 3) := by rw [← hw_]; exact There.new w _ _ (by decide)
      have hE1 : Hid (Ext w w1) := by rw [← hw_]; exact (Ext.refl w).alloc_right _
      have lt1 : w.heap.size < w1.heap.size := by rw [← hw_]; simp
      clear hw_
      go_upto_region 18 with fail
      go_region_with (go_at_call 90; refine (hc.out _).mono ?_; rintro e w' ⟨rfl, rfl⟩)
      all_goals go_upto_region 21 with fail
      all_goals
        generalize hw_ : (w1.alloc (.cells #[.int .i64 2, .int .i64 ((Y : Int) - 1000000000000000), .string { data := #[] }] 23)).drew = w2
        have hx2 : Ext (w1.alloc (.cells #[.int .i64 2, .int .i64 ((Y : Int) - 1000000000000000), .string { data := #[] }] 23)) w2 := by rw [← hw_]; exact (Ext.refl _).drew_right
        clear hw_
        have u0 : w2.cell? ⟨w1.heap.size, 0, none⟩ = some (.int .i64 2) := hx2.cell (by go_simp)
        have u1 : w2.cell? ⟨w1.heap.size, 1, none⟩ = some (.int .i64 ((Y : Int) - 1000000000000000)) := hx2.cell (by go_simp)
        have u2 : w2.cell? ⟨w1.heap.size, 2, none⟩ = some (.string { data := #[] }) := hx2.cell (by go_simp)
        replace hx2 := hid (((Ext.refl w1).alloc_right _).trans hx2)
        have ht2 := hid (ht1.out.ext hx2.out)
        have hE2 := hid (hE1.out.trans hx2.out)
        clear ht1 hE1 hx2 hc
        have lt2 : w1.heap.size < w2.heap.size := World.block_lt_of_cell? w2 _ u0
        have lt3 : w.heap.size < w2.heap.size := by omega
        go_wp2_with fail
        refine (rValidate_any 2 ((Y : Int) - 1000000000000000) { data := #[] } w2).mono ?_
        rw [hve.out]
        rintro e w3 ⟨rfl, hx3⟩
        replace u0 := hx3.cell u0
        replace u1 := hx3.cell u1
        replace u2 := hx3.cell u2
        have ht := hid (ht2.out.ext hx3)
        have hEw := hid (hE2.out.trans hx3)
        clear hx3 ht2 hE2 lt2 lt3
        have lt2 : w1.heap.size < w3.heap.size := World.block_lt_of_cell? w3 _ u0
        have lt3 : w.heap.size < w3.heap.size := by omega
        have p0 := ht.out.cell (o := 0) (by omega)
        have f0 := ht.out.free (o := 0) (by omega)
        have p1 := ht.out.cell (o := 1) (by omega)
        have f1 := ht.out.free (o := 1) (by omega)
        have p2 := ht.out.cell (o := 2) (by omega)
        have f2 := ht.out.free (o := 2) (by omega)
        have kk := hid (put3 ht.out (.int .i64 2) (.int .i64 ((Y : Int) - 1000000000000000)) (.string { data := #[] }))
        have Fin := hid (((hEw.out.set (p := ⟨w.heap.size, 0, none⟩) (Nat.le_refl _) (.int .i64 2)).set (p := ⟨w.heap.size, 1, none⟩) (Nat.le_refl _) (.int .i64 ((Y : Int) - 1000000000000000))).set (p := ⟨w.heap.size, 2, none⟩) (Nat.le_refl _) (.string { data := #[] }))
        clear ht hEw
        go_wp2
        obtain ⟨k0, k1, k2⟩ := kk.out
        exact bodyPost_ret (v := .tuple #[.agg #[.int .i64 2, .int .i64 ((Y : Int) - 1000000000000000), .string { data := #[] }], .int .i64 9]) (by simp [results, Tryd.results67, go_sem, k0, k1, k2]) rfl (GiveCut.some_ 2 ((Y : Int) - 1000000000000000) [] 9 Fin.out)
    · rw [if_neg (by rw [hV]; simp)]
      have hve : valE 2 ((Y : Int) - 1000000000000000) { data := #[] } = 1 := by rw [hv.out, hV]; rfl
      clear hV hv
      replace hve := hid hve
      go_enter Tryd.func67, Tryd.ntmps67
      go_upto_region 3 with fail
      generalize hw_ : w.alloc (.cells #[.int .i64 0, .int .i64 0, .string { data := #[] }] 23) = w1
      have ht1 : Hid (There w1 w.heap.size 3) := by rw [← hw_]; exact There.new w _ _ (by decide)
      have hE1 : Hid (Ext w w1) := by rw [← hw_]; exact (Ext.refl w).alloc_right _
      have lt1 : w.heap.size < w1.heap.size := by rw [← hw_]; simp
      clear hw_
      go_upto_region 18 with fail
      go_region_with (go_at_call 90; refine (hc.out _).mono ?_; rintro e w' ⟨rfl, rfl⟩)
      all_goals go_upto_region 21 with fail
      all_goals
        generalize hw_ : (w1.alloc (.cells #[.int .i64 2, .int .i64 ((Y : Int) - 1000000000000000), .string { data := #[] }] 23)).drew = w2
        have hx2 : Ext (w1.alloc (.cells #[.int .i64 2, .int .i64 ((Y : Int) - 1000000000000000), .string { data := #[] }] 23)) w2 := by rw [← hw_]; exact (Ext.refl _).drew_right
        clear hw_
        have u0 : w2.cell? ⟨w1.heap.size, 0, none⟩ = some (.int .i64 2) := hx2.cell (by go_simp)
        have u1 : w2.cell? ⟨w1.heap.size, 1, none⟩ = some (.int .i64 ((Y : Int) - 1000000000000000)) := hx2.cell (by go_simp)
        have u2 : w2.cell? ⟨w1.heap.size, 2, none⟩ = some (.string { data := #[] }) := hx2.cell (by go_simp)
        replace hx2 := hid (((Ext.refl w1).alloc_right _).trans hx2)
        have ht2 := hid (ht1.out.ext hx2.out)
        have hE2 := hid (hE1.out.trans hx2.out)
        clear ht1 hE1 hx2 hc
        have lt2 : w1.heap.size < w2.heap.size := World.block_lt_of_cell? w2 _ u0
        have lt3 : w.heap.size < w2.heap.size := by omega
        go_wp2_with fail
        refine (rValidate_any 2 ((Y : Int) - 1000000000000000) { data := #[] } w2).mono ?_
        rw [hve.out]
        rintro e w3 ⟨rfl, hx3⟩
        replace u0 := hx3.cell u0
        replace u1 := hx3.cell u1
        replace u2 := hx3.cell u2
        have ht := hid (ht2.out.ext hx3)
        have hEw := hid (hE2.out.trans hx3)
        clear hx3 ht2 hE2 lt2 lt3
        have lt2 : w1.heap.size < w3.heap.size := World.block_lt_of_cell? w3 _ u0
        have lt3 : w.heap.size < w3.heap.size := by omega
        have p0 := ht.out.cell (o := 0) (by omega)
        have f0 := ht.out.free (o := 0) (by omega)
        have p1 := ht.out.cell (o := 1) (by omega)
        have f1 := ht.out.free (o := 1) (by omega)
        have p2 := ht.out.cell (o := 2) (by omega)
        have f2 := ht.out.free (o := 2) (by omega)
        have kk := hid (put3 ht.out (.int .i64 0) (.int .i64 0) (.string { data := #[] }))
        have Fin := hid (((hEw.out.set (p := ⟨w.heap.size, 0, none⟩) (Nat.le_refl _) (.int .i64 0)).set (p := ⟨w.heap.size, 1, none⟩) (Nat.le_refl _) (.int .i64 0)).set (p := ⟨w.heap.size, 2, none⟩) (Nat.le_refl _) (.string { data := #[] }))
        clear ht hEw
        go_wp2
        obtain ⟨k0, k1, k2⟩ := kk.out
        exact bodyPost_ret (v := .tuple #[.agg #[.int .i64 0, .int .i64 0, .string { data := #[] }], .int .i64 0]) (by simp [results, Tryd.results67, go_sem, k0, k1, k2]) rfl (GiveCut.none_ Fin.out)
  · rw [cutS_n h1 hk3 (by decide) (show sizeK 3 = 4 by decide)]
    rw [show ((3 : Nat) : Int) = 3 from rfl]
    have e0 : ((s[0]'h1).toNat : Int) = 3 := by omega
    clear hk3
    by_cases hz : s.size < 1 + 4
    · rw [if_pos hz]
      have dz : decide ((s.size : Int) < 5) = true := by simp; omega
      clear hz
      go_enter Tryd.func67, Tryd.ntmps67
      go_upto_region 3 with fail
      generalize hw_ : w.alloc (.cells #[.int .i64 0, .int .i64 0, .string { data := #[] }] 23) = w1
      have ht1 : Hid (There w1 w.heap.size 3) := by rw [← hw_]; exact There.new w _ _ (by decide)
      have hE1 : Hid (Ext w w1) := by rw [← hw_]; exact (Ext.refl w).alloc_right _
      have lt1 : w.heap.size < w1.heap.size := by rw [← hw_]; simp
      clear hw_
      have ht := ht1
      have hEw := hE1
      have p0 := ht.out.cell (o := 0) (by omega)
      have f0 := ht.out.free (o := 0) (by omega)
      have p1 := ht.out.cell (o := 1) (by omega)
      have f1 := ht.out.free (o := 1) (by omega)
      have p2 := ht.out.cell (o := 2) (by omega)
      have f2 := ht.out.free (o := 2) (by omega)
      have kk := hid (put3 ht.out (.int .i64 0) (.int .i64 0) (.string { data := #[] }))
      have Fin := hid (((hEw.out.set (p := ⟨w.heap.size, 0, none⟩) (Nat.le_refl _) (.int .i64 0)).set (p := ⟨w.heap.size, 1, none⟩) (Nat.le_refl _) (.int .i64 0)).set (p := ⟨w.heap.size, 2, none⟩) (Nat.le_refl _) (.string { data := #[] }))
      clear ht hEw
      go_wp2
      obtain ⟨k0, k1, k2⟩ := kk.out
      exact bodyPost_ret (v := .tuple #[.agg #[.int .i64 0, .int .i64 0, .string { data := #[] }], .int .i64 0]) (by simp [results, Tryd.results67, go_sem, k0, k1, k2]) rfl (GiveCut.none_ Fin.out)
    rw [if_neg hz]
    have dz : decide ((s.size : Int) < 5) = false := by simp; omega
    have h63 : beN ((s.toList.drop 1).take 4) < 9223372036854775808 := by have := beN_lt7 (l := (s.toList.drop 1).take 4) (by rw [List.length_take]; omega); omega
    have hz1 := ext1_size s hz
    have sl : ∀ wx, (Instr.slice 9 (.string s) (some (.int .i64 1)) (some (.int .i64 5)) none).run Tryd.prog wx = .ok (.string (s.extract 1 5)) wx := by
      intro wx
      rw [run_slice_string_if (P := Tryd.prog) wx 9 s .i64 .i64 1 5 Tryd.underlying9, if_pos ⟨by omega, by omega⟩, if_pos ⟨by omega, by omega⟩]
      rfl
    have hc := hid (fun w => rread_any (s.extract 1 5) (by rw [show 5 = 1 + 4 from rfl, hz1]; omega) (by rw [show (s.extract 1 5).toList = (s.toList.drop 1).take 4 from ext1_list s 4]; exact h63) w)
    rw [show (s.extract 1 5).toList = (s.toList.drop 1).take 4 from ext1_list s 4] at hc
    generalize s.extract 1 5 = S at *
    rw [show numK 3 (s.toList.drop 1) = (beN ((s.toList.drop 1).take 4) : Int) from rfl]
    generalize beN ((s.toList.drop 1).take 4) = Y at *
    have hv := hid (valE_e 3 (Y : Int))
    rcases Bool.eq_false_or_eq_true (isV 3 (Y : Int) ByteArray.empty) with hV | hV
    · rw [if_pos (by rw [hV])]
      have hve : valE 3 (Y : Int) { data := #[] } = 0 := by rw [hv.out, hV]; rfl
      clear hV hv
      replace hve := hid hve
      go_enter Tryd.func67, Tryd.ntmps67
      go_upto_region 3 with fail
      generalize hw_ : w.alloc (.cells #[.int .i64 0, .int .i64 0, .string { data := #[] }] 23) = w1
      have ht1 : Hid (There w1 w.heap.size 3) := by rw [← hw_]; exact There.new w _ _ (by decide)
      have hE1 : Hid (Ext w w1) := by rw [← hw_]; exact (Ext.refl w).alloc_right _
      have lt1 : w.heap.size < w1.heap.size := by rw [← hw_]; simp
      clear hw_
      go_upto_region 18 with fail
      go_region_with (go_at_call 90; refine (hc.out _).mono ?_; rintro e w' ⟨rfl, rfl⟩)
      all_goals go_upto_region 21 with fail
      all_goals
        generalize hw_ : (w1.alloc (.cells #[.int .i64 3, .int .i64 (Y : Int), .string { data := #[] }] 23)).drew = w2
        have hx2 : Ext (w1.alloc (.cells #[.int .i64 3, .int .i64 (Y : Int), .string { data := #[] }] 23)) w2 := by rw [← hw_]; exact (Ext.refl _).drew_right
        clear hw_
        have u0 : w2.cell? ⟨w1.heap.size, 0, none⟩ = some (.int .i64 3) := hx2.cell (by go_simp)
        have u1 : w2.cell? ⟨w1.heap.size, 1, none⟩ = some (.int .i64 (Y : Int)) := hx2.cell (by go_simp)
        have u2 : w2.cell? ⟨w1.heap.size, 2, none⟩ = some (.string { data := #[] }) := hx2.cell (by go_simp)
        replace hx2 := hid (((Ext.refl w1).alloc_right _).trans hx2)
        have ht2 := hid (ht1.out.ext hx2.out)
        have hE2 := hid (hE1.out.trans hx2.out)
        clear ht1 hE1 hx2 hc
        have lt2 : w1.heap.size < w2.heap.size := World.block_lt_of_cell? w2 _ u0
        have lt3 : w.heap.size < w2.heap.size := by omega
        go_wp2_with fail
        refine (rValidate_any 3 (Y : Int) { data := #[] } w2).mono ?_
        rw [hve.out]
        rintro e w3 ⟨rfl, hx3⟩
        replace u0 := hx3.cell u0
        replace u1 := hx3.cell u1
        replace u2 := hx3.cell u2
        have ht := hid (ht2.out.ext hx3)
        have hEw := hid (hE2.out.trans hx3)
        clear hx3 ht2 hE2 lt2 lt3
        have lt2 : w1.heap.size < w3.heap.size := World.block_lt_of_cell? w3 _ u0
        have lt3 : w.heap.size < w3.heap.size := by omega
        have p0 := ht.out.cell (o := 0) (by omega)
        have f0 := ht.out.free (o := 0) (by omega)
        have p1 := ht.out.cell (o := 1) (by omega)
        have f1 := ht.out.free (o := 1) (by omega)
        have p2 := ht.out.cell (o := 2) (by omega)
        have f2 := ht.out.free (o := 2) (by omega)
        have kk := hid (put3 ht.out (.int .i64 3) (.int .i64 (Y : Int)) (.string { data := #[] }))
        have Fin := hid (((hEw.out.set (p := ⟨w.heap.size, 0, none⟩) (Nat.le_refl _) (.int .i64 3)).set (p := ⟨w.heap.size, 1, none⟩) (Nat.le_refl _) (.int .i64 (Y : Int))).set (p := ⟨w.heap.size, 2, none⟩) (Nat.le_refl _) (.string { data := #[] }))
        clear ht hEw
        go_wp2
        obtain ⟨k0, k1, k2⟩ := kk.out
        exact bodyPost_ret (v := .tuple #[.agg #[.int .i64 3, .int .i64 (Y : Int), .string { data := #[] }], .int .i64 5]) (by simp [results, Tryd.results67, go_sem, k0, k1, k2]) rfl (GiveCut.some_ 3 (Y : Int) [] 5 Fin.out)
    · rw [if_neg (by rw [hV]; simp)]
      have hve : valE 3 (Y : Int) { data := #[] } = 1 := by rw [hv.out, hV]; rfl
      clear hV hv
      replace hve := hid hve
      go_enter Tryd.func67, Tryd.ntmps67
      go_upto_region 3 with fail
      generalize hw_ : w.alloc (.cells #[.int .i64 0, .int .i64 0, .string { data := #[] }] 23) = w1
      have ht1 : Hid (There w1 w.heap.size 3) := by rw [← hw_]; exact There.new w _ _ (by decide)
      have hE1 : Hid (Ext w w1) := by rw [← hw_]; exact (Ext.refl w).alloc_right _
      have lt1 : w.heap.size < w1.heap.size := by rw [← hw_]; simp
      clear hw_
      go_upto_region 18 with fail
      go_region_with (go_at_call 90; refine (hc.out _).mono ?_; rintro e w' ⟨rfl, rfl⟩)
      all_goals go_upto_region 21 with fail
      all_goals
        generalize hw_ : (w1.alloc (.cells #[.int .i64 3, .int .i64 (Y : Int), .string { data := #[] }] 23)).drew = w2
        have hx2 : Ext (w1.alloc (.cells #[.int .i64 3, .int .i64 (Y : Int), .string { data := #[] }] 23)) w2 := by rw [← hw_]; exact (Ext.refl _).drew_right
        clear hw_
        have u0 : w2.cell? ⟨w1.heap.size, 0, none⟩ = some (.int .i64 3) := hx2.cell (by go_simp)
        have u1 : w2.cell? ⟨w1.heap.size, 1, none⟩ = some (.int .i64 (Y : Int)) := hx2.cell (by go_simp)
        have u2 : w2.cell? ⟨w1.heap.size, 2, none⟩ = some (.string { data := #[] }) := hx2.cell (by go_simp)
        replace hx2 := hid (((Ext.refl w1).alloc_right _).trans hx2)
        have ht2 := hid (ht1.out.ext hx2.out)
        have hE2 := hid (hE1.out.trans hx2.out)
        clear ht1 hE1 hx2 hc
        have lt2 : w1.heap.size < w2.heap.size := World.block_lt_of_cell? w2 _ u0
        have lt3 : w.heap.size < w2.heap.size := by omega
        go_wp2_with fail
        refine (rValidate_any 3 (Y : Int) { data := #[] } w2).mono ?_
        rw [hve.out]
        rintro e w3 ⟨rfl, hx3⟩
        replace u0 := hx3.cell u0
        replace u1 := hx3.cell u1
        replace u2 := hx3.cell u2
        have ht := hid (ht2.out.ext hx3)
        have hEw := hid (hE2.out.trans hx3)
        clear hx3 ht2 hE2 lt2 lt3
        have lt2 : w1.heap.size < w3.heap.size := World.block_lt_of_cell? w3 _ u0
        have lt3 : w.heap.size < w3.heap.size := by omega
        have p0 := ht.out.cell (o := 0) (by omega)
        have f0 := ht.out.free (o := 0) (by omega)
        have p1 := ht.out.cell (o := 1) (by omega)
        have f1 := ht.out.free (o := 1) (by omega)
        have p2 := ht.out.cell (o := 2) (by omega)
        have f2 := ht.out.free (o := 2) (by omega)
        have kk := hid (put3 ht.out (.int .i64 0) (.int .i64 0) (.string { data := #[] }))
        have Fin := hid (((hEw.out.set (p := ⟨w.heap.size, 0, none⟩) (Nat.le_refl _) (.int .i64 0)).set (p := ⟨w.heap.size, 1, none⟩) (Nat.le_refl _) (.int .i64 0)).set (p := ⟨w.heap.size, 2, none⟩) (Nat.le_refl _) (.string { data := #[] }))
        clear ht hEw
        go_wp2
        obtain ⟨k0, k1, k2⟩ := kk.out
        exact bodyPost_ret (v := .tuple #[.agg #[.int .i64 0, .int .i64 0, .string { data := #[] }], .int .i64 0]) (by simp [results, Tryd.results67, go_sem, k0, k1, k2]) rfl (GiveCut.none_ Fin.out)
end Go.Proofs.YtlfanhlkoepodaaDoor
