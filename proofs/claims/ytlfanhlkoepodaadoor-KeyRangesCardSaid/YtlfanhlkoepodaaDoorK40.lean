/-
  Does a comparison hold; is a key between two others.
-/
import Derived.Test.YtlfanhlkoepodaaDoorKZ
namespace Go.Proofs.YtlfanhlkoepodaaDoor
open Go.RowKit
set_option linter.unusedVariables false
set_option linter.unusedSimpArgs false
def inB (k lo hi : ByteArray) : Bool := decide (0 ≤ Lib.compareBytes k.toList lo.toList) && (hi.toList.isEmpty || decide (Lib.compareBytes k.toList hi.toList < 0))
theorem inB_iff (k lo hi : ByteArray) : inB k lo hi = true ↔ isIn k.toList lo.toList hi.toList := by
  unfold inB isIn
  rw [Bool.and_eq_true, Bool.or_eq_true, decide_eq_true_iff, decide_eq_true_iff, List.isEmpty_iff]
  constructor
  · rintro ⟨a, b⟩; exact ⟨by omega, b⟩
  · rintro ⟨a, b⟩; exact ⟨by omega, b⟩
set_option maxRecDepth 100000 in
set_option maxHeartbeats 4000000 in
theorem inside_any (k lo hi : ByteArray) (hk : k.size ≤ 100000) (hl : lo.size ≤ 100000) (hh : hi.size ≤ 100000) (w : World) : Calls Tryd.prog 50 #[.string k, .string lo, .string hi] w (Give (.bool (inB k lo hi)) w) := by
  have c1 := hid (fun w => rCmpT_any k lo hk hl w)
  have c2 := hid (fun w => rCmpT_any k hi hk hh w)
  have hB := hid (show inB k lo hi = (decide (0 ≤ Lib.compareBytes k.toList lo.toList) && (hi.toList.isEmpty || decide (Lib.compareBytes k.toList hi.toList < 0))) from rfl)
  generalize inB k lo hi = R at *
  generalize Lib.compareBytes k.toList lo.toList = C1 at *
  generalize Lib.compareBytes k.toList hi.toList = C2 at *
  rcases Bool.eq_false_or_eq_true (decide (0 ≤ C1)) with q1 | q1
  rotate_left
  · obtain rfl : R = false := by rw [hB.out, q1]; rfl
    clear hB c2
    go_enter Tryd.func50, Tryd.ntmps50
    go_wp2_with fail
    refine (c1.out _).mono ?_
    rintro e w2 ⟨rfl, hx2⟩
    go_wp2
    go_ret
    exact ⟨rfl, hx2⟩
  by_cases h : hi.size = 0
  · have l1 := emp_facts h
    obtain rfl : R = true := by rw [hB.out, q1, l1]; rfl
    clear hB c2 h
    go_enter Tryd.func50, Tryd.ntmps50
    go_wp2_with fail
    refine (c1.out _).mono ?_
    rintro e w2 ⟨rfl, hx2⟩
    go_wp2
    go_ret
    exact ⟨rfl, hx2⟩
  obtain ⟨l1, l2⟩ := full_facts h
  obtain rfl : R = decide (C2 < 0) := by rw [hB.out, q1, l1]; rfl
  clear hB h
  rcases Bool.eq_false_or_eq_true (decide (C2 < 0)) with q2 | q2
  all_goals
    rw [q2]
    go_enter Tryd.func50, Tryd.ntmps50
    go_wp2_with fail
    refine (c1.out _).mono ?_
    rintro e w2 ⟨rfl, hx2⟩
    go_wp2_with fail
    refine (c2.out _).mono ?_
    rintro e w3 ⟨rfl, hx3⟩
    go_wp2
    go_ret
    exact ⟨rfl, hx2.trans hx3⟩
set_option maxRecDepth 100000 in
set_option maxHeartbeats 4000000 in
theorem holds_any (o : Nat) (ho : o < 6) (k n' : Int) (s' : ByteArray) (n : Int) (s : ByteArray) (x : Bool) (hs' : s'.size ≤ maxLen) (hs : s.size ≤ maxLen) (w : World) : Calls Tryd.prog 52 #[vV k n' s', .string (opB o), vV k n s, .bool x] w (Give (.bool (holdB o k n' s' n s x)) w) := by
  have c1 := hid (fun w => rCompare_any k n' s' k n s w)
  have c2 := hid (fun w => rEqual_any s' s x hs' hs w)
  have hB := hid (show holdB o k n' s' n s x = _ from rfl)
  unfold holdB at hB
  replace hB : Hid (_ = holdB o k n' s' n s x) := hid hB.out.symm
  generalize holdB o k n' s' n s x = R at *
  generalize cmpO k n' s' k n s = M at *
  generalize cmpE k n' s' k n s = E at *
  generalize eqB s' s x = Q at *
  generalize hop_ : opB o = op
  have hop := hid hop_.symm
  clear hop_
  unfold vV at *
  go_enter Tryd.func52, Tryd.ntmps52
  go_upto_region 1 with fail
  generalize hw_ : (w.alloc (.cells #[.int .i64 k, .int .i64 n', .string s'] 23)).alloc (.cells #[.int .i64 k, .int .i64 n, .string s] 23) = w1
  have hx1 : Ext ((w.alloc (.cells #[.int .i64 k, .int .i64 n', .string s'] 23)).alloc (.cells #[.int .i64 k, .int .i64 n, .string s] 23)) w1 := by rw [hw_]; exact Ext.refl _
  clear hw_
  have a0 : w1.cell? ⟨w.heap.size, 0, none⟩ = some (.int .i64 k) := hx1.cell (by go_simp)
  have a1 : w1.cell? ⟨w.heap.size, 1, none⟩ = some (.int .i64 n') := hx1.cell (by go_simp)
  have a2 : w1.cell? ⟨w.heap.size, 2, none⟩ = some (.string s') := hx1.cell (by go_simp)
  have r0 : w1.cell? ⟨w.heap.size + 1, 0, none⟩ = some (.int .i64 k) := hx1.cell (by go_simp)
  have r1 : w1.cell? ⟨w.heap.size + 1, 1, none⟩ = some (.int .i64 n) := hx1.cell (by go_simp)
  have r2 : w1.cell? ⟨w.heap.size + 1, 2, none⟩ = some (.string s) := hx1.cell (by go_simp)
  have hE := hid (Ext.trans (((Ext.refl w).alloc_right _).alloc_right _) hx1)
  have lt := World.block_lt_of_cell? w1 _ a0
  have lt2 := World.block_lt_of_cell? w1 _ r0
  clear hx1
  go_wp2_with fail
  refine (c1.out _).mono ?_
  rintro e w2 ⟨rfl, hx⟩
  replace a0 := hx.cell a0
  replace a1 := hx.cell a1
  replace a2 := hx.cell a2
  replace r0 := hx.cell r0
  replace r1 := hx.cell r1
  replace r2 := hx.cell r2
  replace hE := hid (hE.out.trans hx)
  clear hx lt lt2 c1
  have lt := World.block_lt_of_cell? w2 _ a0
  have lt2 := World.block_lt_of_cell? w2 _ r0
  have ho6 : o = 0 ∨ o = 1 ∨ o = 2 ∨ o = 3 ∨ o = 4 ∨ o = 5 := by omega
  clear ho
  rcases ho6 with rfl | rfl | rfl | rfl | rfl | rfl
  · obtain rfl : op = ⟨#[61]⟩ := hop.out
    clear hop
    by_cases h4 : k = 4
    · have e4 : (k == 4) = true := by simpa using h4
      obtain rfl : R = Q := by rw [← hB.out]; simp [h4]
      clear hB h4
      go_wp2_with fail
      refine (c2.out _).mono ?_
      rintro e w' ⟨rfl, rfl⟩
      go_wp2
      go_ret
      exact ⟨rfl, hE.out⟩
    have e4 : (k == 4) = false := by simpa using h4
    obtain rfl : R = (M == 0) := by rw [← hB.out, Bool.eq_iff_iff]; simp [h4]
    clear hB h4 c2
    go_wp2
    go_ret
    exact ⟨rfl, hE.out⟩
  · obtain rfl : op = ⟨#[61, 61]⟩ := hop.out
    clear hop
    obtain rfl : R = (M == 0) := by rw [← hB.out, Bool.eq_iff_iff]; simp
    clear hB c2
    go_wp2
    go_ret
    exact ⟨rfl, hE.out⟩
  · obtain rfl : op = ⟨#[60]⟩ := hop.out
    clear hop
    obtain rfl : R = decide (M < 0) := by rw [← hB.out, Bool.eq_iff_iff]; simp
    clear hB c2
    go_wp2
    go_ret
    exact ⟨rfl, hE.out⟩
  · obtain rfl : op = ⟨#[60, 61]⟩ := hop.out
    clear hop
    obtain rfl : R = decide (M ≤ 0) := by rw [← hB.out, Bool.eq_iff_iff]; simp
    clear hB c2
    go_wp2
    go_ret
    exact ⟨rfl, hE.out⟩
  · obtain rfl : op = ⟨#[62]⟩ := hop.out
    clear hop
    obtain rfl : R = decide (0 < M) := by rw [← hB.out, Bool.eq_iff_iff]; simp
    clear hB c2
    go_wp2
    go_ret
    exact ⟨rfl, hE.out⟩
  · obtain rfl : op = ⟨#[62, 61]⟩ := hop.out
    clear hop
    obtain rfl : R = decide (0 ≤ M) := by rw [← hB.out, Bool.eq_iff_iff]; simp
    clear hB c2
    go_wp2
    go_ret
    exact ⟨rfl, hE.out⟩
end Go.Proofs.YtlfanhlkoepodaaDoor
