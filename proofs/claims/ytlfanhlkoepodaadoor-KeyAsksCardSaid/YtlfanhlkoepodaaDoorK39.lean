/-
  The law of what is wrong with the arguments of Range.
-/
import Derived.Test.YtlfanhlkoepodaaDoorK38
import Derived.Test.YtlfanhlkoepodaaDoorK9
import Derived.Test.YtlfanhlkoepodaaDoorK12
namespace Go.Proofs.YtlfanhlkoepodaaDoor
open Go.RowKit
set_option linter.unusedVariables false
set_option linter.unusedSimpArgs false
theorem askP_two (p c : Int) : askP p c = 0 ∨ askP p c = 1 := by unfold askP; split <;> simp
set_option maxRecDepth 100000 in
set_option maxHeartbeats 20000000 in
theorem asks_law (op : ByteArray) (k n : Int) (s : ByteArray) (p c : Int) (w : World) (hz : op.size ≤ 140737488351232) (hw1 : (Lit.int .i64 k).wf = true) (hw2 : (Lit.int .i64 n).wf = true) (hs : s.size ≤ maxLen) (hw3 : (Lit.int .i64 p).wf = true) (hw4 : (Lit.int .i64 c).wf = true) (hm : ML w) : Calls Tryd.prog 14 #[.string op, vV k n s, .agg #[.int .i64 p, .int .i64 c]] w (Give (.bool true) w) := by
  clear hw1 hw2 hs hw3 hw4
  by_cases hl : 40000 < op.size
  · have d1 : decide ((40000 : Int) < (op.size : Int)) = true := by simp; omega
    clear hl hz
    unfold vV at *
    replace hm := hid hm
    go_enter Tryd.func14, Tryd.ntmps14
    go_upto_region 1 with fail
    generalize hw_ : (w.alloc (.cells #[.int .i64 k, .int .i64 n, .string s] 23)).alloc (.cells #[.int .i64 p, .int .i64 c] 79) = w1
    have hx1 : Ext ((w.alloc (.cells #[.int .i64 k, .int .i64 n, .string s] 23)).alloc (.cells #[.int .i64 p, .int .i64 c] 79)) w1 := by rw [hw_]; exact Ext.refl _
    clear hw_
    have a0 : w1.cell? ⟨w.heap.size, 0, none⟩ = some (.int .i64 k) := hx1.cell (by go_simp)
    have a1 : w1.cell? ⟨w.heap.size, 1, none⟩ = some (.int .i64 n) := hx1.cell (by go_simp)
    have a2 : w1.cell? ⟨w.heap.size, 2, none⟩ = some (.string s) := hx1.cell (by go_simp)
    have r0 : w1.cell? ⟨w.heap.size + 1, 0, none⟩ = some (.int .i64 p) := hx1.cell (by go_simp)
    have r1 : w1.cell? ⟨w.heap.size + 1, 1, none⟩ = some (.int .i64 c) := hx1.cell (by go_simp)
    have hE := hid (Ext.trans (((Ext.refl w).alloc_right _).alloc_right _) hx1)
    have lt := World.block_lt_of_cell? w1 _ a0
    have lt2 := World.block_lt_of_cell? w1 _ r0
    clear hx1
    go_wp2_with fail
    refine (known_any _ (hm.out.ext hE.out)).mono ?_
    rintro e w9 ⟨rfl, hx9⟩
    go_wp2
    go_ret
    exact ⟨rfl, hE.out.trans hx9⟩
  have d1 : decide ((40000 : Int) < (op.size : Int)) = false := by simp; omega
  replace hl : op.size ≤ 40000 := by omega
  clear hz
  have co := hid (fun g w H => over_any (fun _ => s) 1 g (by omega) w H)
  have cn := hid (fun he w hm => Range_no op k n s true p c false hl he w hm)
  have cv := hid (fun w => rValidate_any k n s w)
  have cq := hid (fun w => rAsked_any p c w)
  have ci := hid (fun A w h => rIn_any A 6 6 opsL op w h)
  have cp := hid (fun w => opers_any w)
  by_cases hv : valE k n s = 0
  rotate_left
  · have hr : rngE op k n s p c = valE k n s := by unfold rngE; rw [if_pos (by rw [askV_no hv]; exact hv), askV_no hv]
    have cr := hid (cn.out (by rw [hr]; exact hv))
    rw [hr] at cr
    have d2 : (valE k n s != 0) = true := by simpa using hv
    have d3 : (valE k n s == 0) = false := by simpa using hv
    clear hr hv cn ci cp cq
    generalize valE k n s = E at *
    unfold vV at *
    replace hm := hid hm
    go_enter Tryd.func14, Tryd.ntmps14
    go_upto_region 1 with fail
    generalize hw_ : (w.alloc (.cells #[.int .i64 k, .int .i64 n, .string s] 23)).alloc (.cells #[.int .i64 p, .int .i64 c] 79) = w1
    have hx1 : Ext ((w.alloc (.cells #[.int .i64 k, .int .i64 n, .string s] 23)).alloc (.cells #[.int .i64 p, .int .i64 c] 79)) w1 := by rw [hw_]; exact Ext.refl _
    clear hw_
    have a0 : w1.cell? ⟨w.heap.size, 0, none⟩ = some (.int .i64 k) := hx1.cell (by go_simp)
    have a1 : w1.cell? ⟨w.heap.size, 1, none⟩ = some (.int .i64 n) := hx1.cell (by go_simp)
    have a2 : w1.cell? ⟨w.heap.size, 2, none⟩ = some (.string s) := hx1.cell (by go_simp)
    have r0 : w1.cell? ⟨w.heap.size + 1, 0, none⟩ = some (.int .i64 p) := hx1.cell (by go_simp)
    have r1 : w1.cell? ⟨w.heap.size + 1, 1, none⟩ = some (.int .i64 c) := hx1.cell (by go_simp)
    have hE := hid (Ext.trans (((Ext.refl w).alloc_right _).alloc_right _) hx1)
    have lt := World.block_lt_of_cell? w1 _ a0
    have lt2 := World.block_lt_of_cell? w1 _ r0
    clear hx1
    go_wp2_with fail
    refine (co.out _ _ (fun j hj => by obtain rfl : j = 0 := (by omega); go_simp)).mono ?_
    rintro e w' ⟨⟨b, rfl⟩, rfl⟩
    generalize hw_ : w1.alloc (.cells #[.int .i64 k, .int .i64 n, .string s] 23) = w2
    have hx : Ext w1 w2 := by rw [← hw_]; exact (Ext.refl _).alloc_right _
    clear hw_
    replace a0 := hx.cell a0
    replace a1 := hx.cell a1
    replace a2 := hx.cell a2
    replace r0 := hx.cell r0
    replace r1 := hx.cell r1
    replace hE := hid (hE.out.trans hx)
    clear hx lt lt2
    have lt := World.block_lt_of_cell? w2 _ a0
    have lt2 := World.block_lt_of_cell? w2 _ r0
    clear co
    cases b with
    | true =>
      go_wp2_with fail
      refine (known_any _ (hm.out.ext hE.out)).mono ?_
      rintro e w9 ⟨rfl, hx9⟩
      go_wp2
      go_ret
      exact ⟨rfl, hE.out.trans hx9⟩
    | false =>
      go_wp2_with fail
      refine (cr.out _ (hm.out.ext hE.out)).mono ?_
      rintro e w3 ⟨rfl, hx⟩
      replace a0 := hx.cell a0
      replace a1 := hx.cell a1
      replace a2 := hx.cell a2
      replace r0 := hx.cell r0
      replace r1 := hx.cell r1
      replace hE := hid (hE.out.trans hx)
      clear hx lt lt2
      have lt := World.block_lt_of_cell? w3 _ a0
      have lt2 := World.block_lt_of_cell? w3 _ r0
      clear cr
      go_wp2_with fail
      refine (cv.out _).mono ?_
      rintro e w4 ⟨rfl, hx⟩
      replace a0 := hx.cell a0
      replace a1 := hx.cell a1
      replace a2 := hx.cell a2
      replace r0 := hx.cell r0
      replace r1 := hx.cell r1
      replace hE := hid (hE.out.trans hx)
      clear hx lt lt2
      have lt := World.block_lt_of_cell? w4 _ a0
      have lt2 := World.block_lt_of_cell? w4 _ r0
      go_wp2_with fail
      refine (known_any _ (hm.out.ext hE.out)).mono ?_
      rintro e w9 ⟨rfl, hx9⟩
      go_wp2
      go_ret
      exact ⟨rfl, hE.out.trans hx9⟩
  have hq := askV_yes (p := p) (c := c) hv
  rcases askP_two p c with hp | hp
  rotate_left
  · have hr : rngE op k n s p c = 1 := by unfold rngE; rw [hq, hp, if_pos (by decide)]
    have cr := hid (cn.out (by rw [hr]; decide))
    rw [hr] at cr
    rw [hv] at cv
    rw [hp] at cq
    clear hr hv cn ci cp hq hp
    unfold vV at *
    replace hm := hid hm
    go_enter Tryd.func14, Tryd.ntmps14
    go_upto_region 1 with fail
    generalize hw_ : (w.alloc (.cells #[.int .i64 k, .int .i64 n, .string s] 23)).alloc (.cells #[.int .i64 p, .int .i64 c] 79) = w1
    have hx1 : Ext ((w.alloc (.cells #[.int .i64 k, .int .i64 n, .string s] 23)).alloc (.cells #[.int .i64 p, .int .i64 c] 79)) w1 := by rw [hw_]; exact Ext.refl _
    clear hw_
    have a0 : w1.cell? ⟨w.heap.size, 0, none⟩ = some (.int .i64 k) := hx1.cell (by go_simp)
    have a1 : w1.cell? ⟨w.heap.size, 1, none⟩ = some (.int .i64 n) := hx1.cell (by go_simp)
    have a2 : w1.cell? ⟨w.heap.size, 2, none⟩ = some (.string s) := hx1.cell (by go_simp)
    have r0 : w1.cell? ⟨w.heap.size + 1, 0, none⟩ = some (.int .i64 p) := hx1.cell (by go_simp)
    have r1 : w1.cell? ⟨w.heap.size + 1, 1, none⟩ = some (.int .i64 c) := hx1.cell (by go_simp)
    have hE := hid (Ext.trans (((Ext.refl w).alloc_right _).alloc_right _) hx1)
    have lt := World.block_lt_of_cell? w1 _ a0
    have lt2 := World.block_lt_of_cell? w1 _ r0
    clear hx1
    go_wp2_with fail
    refine (co.out _ _ (fun j hj => by obtain rfl : j = 0 := (by omega); go_simp)).mono ?_
    rintro e w' ⟨⟨b, rfl⟩, rfl⟩
    generalize hw_ : w1.alloc (.cells #[.int .i64 k, .int .i64 n, .string s] 23) = w2
    have hx : Ext w1 w2 := by rw [← hw_]; exact (Ext.refl _).alloc_right _
    clear hw_
    replace a0 := hx.cell a0
    replace a1 := hx.cell a1
    replace a2 := hx.cell a2
    replace r0 := hx.cell r0
    replace r1 := hx.cell r1
    replace hE := hid (hE.out.trans hx)
    clear hx lt lt2
    have lt := World.block_lt_of_cell? w2 _ a0
    have lt2 := World.block_lt_of_cell? w2 _ r0
    clear co
    cases b with
    | true =>
      go_wp2_with fail
      refine (known_any _ (hm.out.ext hE.out)).mono ?_
      rintro e w9 ⟨rfl, hx9⟩
      go_wp2
      go_ret
      exact ⟨rfl, hE.out.trans hx9⟩
    | false =>
      go_wp2_with fail
      refine (cr.out _ (hm.out.ext hE.out)).mono ?_
      rintro e w3 ⟨rfl, hx⟩
      replace a0 := hx.cell a0
      replace a1 := hx.cell a1
      replace a2 := hx.cell a2
      replace r0 := hx.cell r0
      replace r1 := hx.cell r1
      replace hE := hid (hE.out.trans hx)
      clear hx lt lt2
      have lt := World.block_lt_of_cell? w3 _ a0
      have lt2 := World.block_lt_of_cell? w3 _ r0
      clear cr
      go_wp2_with fail
      refine (cv.out _).mono ?_
      rintro e w4 ⟨rfl, hx⟩
      replace a0 := hx.cell a0
      replace a1 := hx.cell a1
      replace a2 := hx.cell a2
      replace r0 := hx.cell r0
      replace r1 := hx.cell r1
      replace hE := hid (hE.out.trans hx)
      clear hx lt lt2
      have lt := World.block_lt_of_cell? w4 _ a0
      have lt2 := World.block_lt_of_cell? w4 _ r0
      go_wp2_with fail
      refine (cq.out _).mono ?_
      rintro e w' ⟨rfl, rfl⟩
      go_wp2_with fail
      refine (known_any _ (hm.out.ext hE.out)).mono ?_
      rintro e w9 ⟨rfl, hx9⟩
      go_wp2
      go_ret
      exact ⟨rfl, hE.out.trans hx9⟩
  rw [hp] at hq cq
  clear hp
  have he := hq
  cases hop : isOp op with
  | false =>
    have hr : rngE op k n s p c = 1 := by unfold rngE; rw [hq, if_neg (by decide), hop, if_pos rfl]
    have cr := hid (cn.out (by rw [hr]; decide))
    rw [hr] at cr
    rw [hv] at cv
    unfold isOp at hop
    rw [hop] at ci
    clear hr hv cn hq he hop
    unfold vV at *
    replace hm := hid hm
    go_enter Tryd.func14, Tryd.ntmps14
    go_upto_region 1 with fail
    generalize hw_ : (w.alloc (.cells #[.int .i64 k, .int .i64 n, .string s] 23)).alloc (.cells #[.int .i64 p, .int .i64 c] 79) = w1
    have hx1 : Ext ((w.alloc (.cells #[.int .i64 k, .int .i64 n, .string s] 23)).alloc (.cells #[.int .i64 p, .int .i64 c] 79)) w1 := by rw [hw_]; exact Ext.refl _
    clear hw_
    have a0 : w1.cell? ⟨w.heap.size, 0, none⟩ = some (.int .i64 k) := hx1.cell (by go_simp)
    have a1 : w1.cell? ⟨w.heap.size, 1, none⟩ = some (.int .i64 n) := hx1.cell (by go_simp)
    have a2 : w1.cell? ⟨w.heap.size, 2, none⟩ = some (.string s) := hx1.cell (by go_simp)
    have r0 : w1.cell? ⟨w.heap.size + 1, 0, none⟩ = some (.int .i64 p) := hx1.cell (by go_simp)
    have r1 : w1.cell? ⟨w.heap.size + 1, 1, none⟩ = some (.int .i64 c) := hx1.cell (by go_simp)
    have hE := hid (Ext.trans (((Ext.refl w).alloc_right _).alloc_right _) hx1)
    have lt := World.block_lt_of_cell? w1 _ a0
    have lt2 := World.block_lt_of_cell? w1 _ r0
    clear hx1
    go_wp2_with fail
    refine (co.out _ _ (fun j hj => by obtain rfl : j = 0 := (by omega); go_simp)).mono ?_
    rintro e w' ⟨⟨b, rfl⟩, rfl⟩
    generalize hw_ : w1.alloc (.cells #[.int .i64 k, .int .i64 n, .string s] 23) = w2
    have hx : Ext w1 w2 := by rw [← hw_]; exact (Ext.refl _).alloc_right _
    clear hw_
    replace a0 := hx.cell a0
    replace a1 := hx.cell a1
    replace a2 := hx.cell a2
    replace r0 := hx.cell r0
    replace r1 := hx.cell r1
    replace hE := hid (hE.out.trans hx)
    clear hx lt lt2
    have lt := World.block_lt_of_cell? w2 _ a0
    have lt2 := World.block_lt_of_cell? w2 _ r0
    clear co
    cases b with
    | true =>
      go_wp2_with fail
      refine (known_any _ (hm.out.ext hE.out)).mono ?_
      rintro e w9 ⟨rfl, hx9⟩
      go_wp2
      go_ret
      exact ⟨rfl, hE.out.trans hx9⟩
    | false =>
      go_wp2_with fail
      refine (cr.out _ (hm.out.ext hE.out)).mono ?_
      rintro e w3 ⟨rfl, hx⟩
      replace a0 := hx.cell a0
      replace a1 := hx.cell a1
      replace a2 := hx.cell a2
      replace r0 := hx.cell r0
      replace r1 := hx.cell r1
      replace hE := hid (hE.out.trans hx)
      clear hx lt lt2
      have lt := World.block_lt_of_cell? w3 _ a0
      have lt2 := World.block_lt_of_cell? w3 _ r0
      clear cr
      go_wp2_with fail
      refine (cv.out _).mono ?_
      rintro e w4 ⟨rfl, hx⟩
      replace a0 := hx.cell a0
      replace a1 := hx.cell a1
      replace a2 := hx.cell a2
      replace r0 := hx.cell r0
      replace r1 := hx.cell r1
      replace hE := hid (hE.out.trans hx)
      clear hx lt lt2
      have lt := World.block_lt_of_cell? w4 _ a0
      have lt2 := World.block_lt_of_cell? w4 _ r0
      go_wp2_with fail
      refine (cq.out _).mono ?_
      rintro e w' ⟨rfl, rfl⟩
      go_wp2_with fail
      refine (cp.out _).mono ?_
      rintro e w5 ⟨A, rfl, hA, hx⟩
      replace a0 := hx.cell a0
      replace a1 := hx.cell a1
      replace a2 := hx.cell a2
      replace r0 := hx.cell r0
      replace r1 := hx.cell r1
      replace hE := hid (hE.out.trans hx)
      clear hx lt lt2
      have lt := World.block_lt_of_cell? w5 _ a0
      have lt2 := World.block_lt_of_cell? w5 _ r0
      go_wp2_with fail
      refine (ci.out _ _ hA).mono ?_
      rintro e w6 ⟨rfl, hx⟩
      replace a0 := hx.cell a0
      replace a1 := hx.cell a1
      replace a2 := hx.cell a2
      replace r0 := hx.cell r0
      replace r1 := hx.cell r1
      replace hE := hid (hE.out.trans hx)
      clear hx lt lt2
      have lt := World.block_lt_of_cell? w6 _ a0
      have lt2 := World.block_lt_of_cell? w6 _ r0
      go_wp2_with fail
      refine (known_any _ (hm.out.ext hE.out)).mono ?_
      rintro e w9 ⟨rfl, hx9⟩
      go_wp2
      go_ret
      exact ⟨rfl, hE.out.trans hx9⟩
  | true =>
    by_cases hk : k = 0
    · have hr : rngE op k n s p c = 6 := by unfold rngE; rw [hq, if_neg (by decide), hop, if_neg (by decide), if_pos hk]
      have cr := hid (cn.out (by rw [hr]; decide))
      rw [hr] at cr
      rw [hv] at cv
      unfold isOp at hop
      rw [hop] at ci
      have k0 : (k == 0) = true := by simpa using hk
      clear hr hv cn hq he hop hk
      unfold vV at *
      replace hm := hid hm
      go_enter Tryd.func14, Tryd.ntmps14
      go_upto_region 1 with fail
      generalize hw_ : (w.alloc (.cells #[.int .i64 k, .int .i64 n, .string s] 23)).alloc (.cells #[.int .i64 p, .int .i64 c] 79) = w1
      have hx1 : Ext ((w.alloc (.cells #[.int .i64 k, .int .i64 n, .string s] 23)).alloc (.cells #[.int .i64 p, .int .i64 c] 79)) w1 := by rw [hw_]; exact Ext.refl _
      clear hw_
      have a0 : w1.cell? ⟨w.heap.size, 0, none⟩ = some (.int .i64 k) := hx1.cell (by go_simp)
      have a1 : w1.cell? ⟨w.heap.size, 1, none⟩ = some (.int .i64 n) := hx1.cell (by go_simp)
      have a2 : w1.cell? ⟨w.heap.size, 2, none⟩ = some (.string s) := hx1.cell (by go_simp)
      have r0 : w1.cell? ⟨w.heap.size + 1, 0, none⟩ = some (.int .i64 p) := hx1.cell (by go_simp)
      have r1 : w1.cell? ⟨w.heap.size + 1, 1, none⟩ = some (.int .i64 c) := hx1.cell (by go_simp)
      have hE := hid (Ext.trans (((Ext.refl w).alloc_right _).alloc_right _) hx1)
      have lt := World.block_lt_of_cell? w1 _ a0
      have lt2 := World.block_lt_of_cell? w1 _ r0
      clear hx1
      go_wp2_with fail
      refine (co.out _ _ (fun j hj => by obtain rfl : j = 0 := (by omega); go_simp)).mono ?_
      rintro e w' ⟨⟨b, rfl⟩, rfl⟩
      generalize hw_ : w1.alloc (.cells #[.int .i64 k, .int .i64 n, .string s] 23) = w2
      have hx : Ext w1 w2 := by rw [← hw_]; exact (Ext.refl _).alloc_right _
      clear hw_
      replace a0 := hx.cell a0
      replace a1 := hx.cell a1
      replace a2 := hx.cell a2
      replace r0 := hx.cell r0
      replace r1 := hx.cell r1
      replace hE := hid (hE.out.trans hx)
      clear hx lt lt2
      have lt := World.block_lt_of_cell? w2 _ a0
      have lt2 := World.block_lt_of_cell? w2 _ r0
      clear co
      cases b with
      | true =>
        go_wp2_with fail
        refine (known_any _ (hm.out.ext hE.out)).mono ?_
        rintro e w9 ⟨rfl, hx9⟩
        go_wp2
        go_ret
        exact ⟨rfl, hE.out.trans hx9⟩
      | false =>
        go_wp2_with fail
        refine (cr.out _ (hm.out.ext hE.out)).mono ?_
        rintro e w3 ⟨rfl, hx⟩
        replace a0 := hx.cell a0
        replace a1 := hx.cell a1
        replace a2 := hx.cell a2
        replace r0 := hx.cell r0
        replace r1 := hx.cell r1
        replace hE := hid (hE.out.trans hx)
        clear hx lt lt2
        have lt := World.block_lt_of_cell? w3 _ a0
        have lt2 := World.block_lt_of_cell? w3 _ r0
        clear cr
        go_wp2_with fail
        refine (cv.out _).mono ?_
        rintro e w4 ⟨rfl, hx⟩
        replace a0 := hx.cell a0
        replace a1 := hx.cell a1
        replace a2 := hx.cell a2
        replace r0 := hx.cell r0
        replace r1 := hx.cell r1
        replace hE := hid (hE.out.trans hx)
        clear hx lt lt2
        have lt := World.block_lt_of_cell? w4 _ a0
        have lt2 := World.block_lt_of_cell? w4 _ r0
        go_wp2_with fail
        refine (cq.out _).mono ?_
        rintro e w' ⟨rfl, rfl⟩
        go_wp2_with fail
        refine (cp.out _).mono ?_
        rintro e w5 ⟨A, rfl, hA, hx⟩
        replace a0 := hx.cell a0
        replace a1 := hx.cell a1
        replace a2 := hx.cell a2
        replace r0 := hx.cell r0
        replace r1 := hx.cell r1
        replace hE := hid (hE.out.trans hx)
        clear hx lt lt2
        have lt := World.block_lt_of_cell? w5 _ a0
        have lt2 := World.block_lt_of_cell? w5 _ r0
        go_wp2_with fail
        refine (ci.out _ _ hA).mono ?_
        rintro e w6 ⟨rfl, hx⟩
        replace a0 := hx.cell a0
        replace a1 := hx.cell a1
        replace a2 := hx.cell a2
        replace r0 := hx.cell r0
        replace r1 := hx.cell r1
        replace hE := hid (hE.out.trans hx)
        clear hx lt lt2
        have lt := World.block_lt_of_cell? w6 _ a0
        have lt2 := World.block_lt_of_cell? w6 _ r0
        go_wp2_with fail
        refine (known_any _ (hm.out.ext hE.out)).mono ?_
        rintro e w9 ⟨rfl, hx9⟩
        go_wp2
        go_ret
        exact ⟨rfl, hE.out.trans hx9⟩
    obtain ⟨o, ho, rfl⟩ := isOp_yes hop
    have cr := hid (fun w hm => Range_yes o ho k n s true p c false he hk w hm)
    generalize dnL false (bnd o k n s true p c) = BL at *
    generalize dnH false (bnd o k n s true p c) = BH at *
    generalize sureB o k s true c = BS at *
    rw [hv] at cv
    unfold isOp at hop
    rw [hop] at ci
    have k0 : (k == 0) = false := by simpa using hk
    clear hv cn hq he hop hk ho
    generalize opB o = op at *
    unfold vV at *
    replace hm := hid hm
    go_enter Tryd.func14, Tryd.ntmps14
    go_upto_region 1 with fail
    generalize hw_ : (w.alloc (.cells #[.int .i64 k, .int .i64 n, .string s] 23)).alloc (.cells #[.int .i64 p, .int .i64 c] 79) = w1
    have hx1 : Ext ((w.alloc (.cells #[.int .i64 k, .int .i64 n, .string s] 23)).alloc (.cells #[.int .i64 p, .int .i64 c] 79)) w1 := by rw [hw_]; exact Ext.refl _
    clear hw_
    have a0 : w1.cell? ⟨w.heap.size, 0, none⟩ = some (.int .i64 k) := hx1.cell (by go_simp)
    have a1 : w1.cell? ⟨w.heap.size, 1, none⟩ = some (.int .i64 n) := hx1.cell (by go_simp)
    have a2 : w1.cell? ⟨w.heap.size, 2, none⟩ = some (.string s) := hx1.cell (by go_simp)
    have r0 : w1.cell? ⟨w.heap.size + 1, 0, none⟩ = some (.int .i64 p) := hx1.cell (by go_simp)
    have r1 : w1.cell? ⟨w.heap.size + 1, 1, none⟩ = some (.int .i64 c) := hx1.cell (by go_simp)
    have hE := hid (Ext.trans (((Ext.refl w).alloc_right _).alloc_right _) hx1)
    have lt := World.block_lt_of_cell? w1 _ a0
    have lt2 := World.block_lt_of_cell? w1 _ r0
    clear hx1
    go_wp2_with fail
    refine (co.out _ _ (fun j hj => by obtain rfl : j = 0 := (by omega); go_simp)).mono ?_
    rintro e w' ⟨⟨b, rfl⟩, rfl⟩
    generalize hw_ : w1.alloc (.cells #[.int .i64 k, .int .i64 n, .string s] 23) = w2
    have hx : Ext w1 w2 := by rw [← hw_]; exact (Ext.refl _).alloc_right _
    clear hw_
    replace a0 := hx.cell a0
    replace a1 := hx.cell a1
    replace a2 := hx.cell a2
    replace r0 := hx.cell r0
    replace r1 := hx.cell r1
    replace hE := hid (hE.out.trans hx)
    clear hx lt lt2
    have lt := World.block_lt_of_cell? w2 _ a0
    have lt2 := World.block_lt_of_cell? w2 _ r0
    clear co
    cases b with
    | true =>
      go_wp2_with fail
      refine (known_any _ (hm.out.ext hE.out)).mono ?_
      rintro e w9 ⟨rfl, hx9⟩
      go_wp2
      go_ret
      exact ⟨rfl, hE.out.trans hx9⟩
    | false =>
      go_wp2_with fail
      refine (cr.out _ (hm.out.ext hE.out)).mono ?_
      rintro e w3 ⟨rfl, hx⟩
      replace a0 := hx.cell a0
      replace a1 := hx.cell a1
      replace a2 := hx.cell a2
      replace r0 := hx.cell r0
      replace r1 := hx.cell r1
      replace hE := hid (hE.out.trans hx)
      clear hx lt lt2
      have lt := World.block_lt_of_cell? w3 _ a0
      have lt2 := World.block_lt_of_cell? w3 _ r0
      clear cr
      go_wp2_with fail
      refine (cv.out _).mono ?_
      rintro e w4 ⟨rfl, hx⟩
      replace a0 := hx.cell a0
      replace a1 := hx.cell a1
      replace a2 := hx.cell a2
      replace r0 := hx.cell r0
      replace r1 := hx.cell r1
      replace hE := hid (hE.out.trans hx)
      clear hx lt lt2
      have lt := World.block_lt_of_cell? w4 _ a0
      have lt2 := World.block_lt_of_cell? w4 _ r0
      go_wp2_with fail
      refine (cq.out _).mono ?_
      rintro e w' ⟨rfl, rfl⟩
      go_wp2_with fail
      refine (cp.out _).mono ?_
      rintro e w5 ⟨A, rfl, hA, hx⟩
      replace a0 := hx.cell a0
      replace a1 := hx.cell a1
      replace a2 := hx.cell a2
      replace r0 := hx.cell r0
      replace r1 := hx.cell r1
      replace hE := hid (hE.out.trans hx)
      clear hx lt lt2
      have lt := World.block_lt_of_cell? w5 _ a0
      have lt2 := World.block_lt_of_cell? w5 _ r0
      go_wp2_with fail
      refine (ci.out _ _ hA).mono ?_
      rintro e w6 ⟨rfl, hx⟩
      replace a0 := hx.cell a0
      replace a1 := hx.cell a1
      replace a2 := hx.cell a2
      replace r0 := hx.cell r0
      replace r1 := hx.cell r1
      replace hE := hid (hE.out.trans hx)
      clear hx lt lt2
      have lt := World.block_lt_of_cell? w6 _ a0
      have lt2 := World.block_lt_of_cell? w6 _ r0
      go_wp2_with fail
      refine (known_any _ (hm.out.ext hE.out)).mono ?_
      rintro e w9 ⟨rfl, hx9⟩
      go_wp2
      go_ret
      exact ⟨rfl, hE.out.trans hx9⟩
end Go.Proofs.YtlfanhlkoepodaaDoor
