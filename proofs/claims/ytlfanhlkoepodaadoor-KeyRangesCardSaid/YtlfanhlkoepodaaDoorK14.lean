/-
  The value of the first key in bytes: the program and the reference.
-/
import Derived.Test.YtlfanhlkoepodaaDoorK13
import Derived.Laws.DeepStrings4
namespace Go.Proofs.YtlfanhlkoepodaaDoor
open Go.RowKit
set_option linter.unusedVariables false
set_option linter.unusedSimpArgs false
/-- A value and how many bytes its key has, or 0. -/
def GiveCut (R : Option ((Int × Int × List UInt8) × Nat)) (w : World) (e : Ending) (w' : World) : Prop := match R with
  | none => ∃ k n s, e = .returned (.tuple #[vV k n s, .int .i64 0]) ∧ Ext w w'
  | some x => e = .returned (.tuple #[vV x.1.1 x.1.2.1 (strB x.1.2.2), .int .i64 (x.2 : Nat)]) ∧ Ext w w'
theorem GiveCut.none_ {w w' : World} {k n : Int} {s : ByteArray} (h : Ext w w') : GiveCut none w (.returned (.tuple #[.agg #[.int .i64 k, .int .i64 n, .string s], .int .i64 0])) w' := ⟨k, n, s, rfl, h⟩
theorem GiveCut.some_ {w w' : World} (k n : Int) (t : List UInt8) (q : Nat) (h : Ext w w') : GiveCut (some ((k, n, t), q)) w (.returned (.tuple #[.agg #[.int .i64 k, .int .i64 n, .string (strB t)], .int .i64 (q : Nat)])) w' := ⟨rfl, h⟩
theorem cutS_byte (s : ByteArray) (h : 0 < s.size) : cutS s.toList = cutS ((s[0]'h) :: s.toList.drop 1) := by
  have := drop_byte s h
  rw [List.drop_zero] at this
  rw [← this]
theorem cutS_0 {s : ByteArray} (h : 0 < s.size) (e : (s[0]'h).toNat = 0) : cutS s.toList = some ((0, 0, []), 1) := by rw [cutS_byte s h, cutS_cons, if_pos e]
theorem cutS_4 {s : ByteArray} (h : 0 < s.size) (e : (s[0]'h).toNat = 4) : cutS s.toList = (cutT [] 1 (s.toList.drop 1)).map fun x => ((4, 0, x.1), x.2) := by rw [cutS_byte s h, cutS_cons, if_neg (by omega), if_pos e]
theorem cutS_no {s : ByteArray} (h : 0 < s.size) (e : 4 < (s[0]'h).toNat) : cutS s.toList = none := by
  rw [cutS_byte s h, cutS_cons, if_neg (by omega), if_neg (by omega), if_pos]
  left
  unfold sizeK
  rw [if_neg (by omega), if_neg (by omega), if_neg (by omega)]
theorem cutS_n {s : ByteArray} {k z : Nat} (h : 0 < s.size) (e : (s[0]'h).toNat = k) (hk : k = 1 ∨ k = 2 ∨ k = 3) (hz : sizeK k = z) : cutS s.toList = if s.size < 1 + z then none else if isV k (numK k (s.toList.drop 1)) ByteArray.empty then some (((k : Int), numK k (s.toList.drop 1), []), 1 + z) else none := by
  subst hz
  have hn : sizeK k ≠ 0 := by unfold sizeK; rcases hk with rfl | rfl | rfl <;> decide
  rw [cutS_byte s h, cutS_cons, e, if_neg (by omega), if_neg (by omega), List.length_drop, len_toList]
  by_cases g : s.size < 1 + sizeK k
  · rw [if_pos (by omega), if_pos g]
  · rw [if_neg (by omega), if_neg g]
theorem valE_e (k n : Int) : valE k n { data := #[] } = if isV k n ByteArray.empty then 0 else 1 := by unfold valE; rfl
theorem ext1_list (s : ByteArray) (z : Nat) : (s.extract 1 (1 + z)).toList = (s.toList.drop 1).take z := by rw [ext_list, show 1 + z - 1 = z by omega]
theorem ext1_size (s : ByteArray) {z : Nat} (h : ¬ s.size < 1 + z) : (s.extract 1 (1 + z)).size = z := by rw [ByteArray.size_extract]; omega
/-- What the program has read, and what it is. -/
theorem num_is {k z : Nat} {r : List UInt8} (hk : k = 1 ∨ k = 3) (hz : sizeK k = z) : w64 (beN (r.take z)) = numK k r := by
  have hl : (r.take z).length ≤ 7 := by rw [List.length_take]; unfold sizeK at hz; rcases hk with rfl | rfl <;> simp at hz <;> omega
  have := beN_lt7 hl
  rw [w64_in (by omega) (by omega)]
  unfold numK
  rw [if_neg (by omega), hz]
set_option maxRecDepth 100000 in
set_option maxHeartbeats 4000000 in
theorem cut_any (s : ByteArray) (hs : s.size ≤ 4000000) (w : World) : Calls Tryd.prog 66 #[.string s] w (GiveCut (cutS s.toList) w) := by
  by_cases h0 : s.size = 0
  · obtain rfl := str_nil h0
    rw [show cutS (ByteArray.toList { data := #[] }) = none by rw [show ByteArray.toList { data := #[] } = [] from emp_list]; rfl]
    clear h0
    go_enter Tryd.func66, Tryd.ntmps66
    go_wp2
    exact bodyPost_ret (v := .tuple #[.agg #[.int .i64 0, .int .i64 0, .string { data := #[] }], .int .i64 0]) (by simp [results, Tryd.results66, go_sem]) rfl (GiveCut.none_ ((Ext.refl w).alloc_right _))
  have h1 : 0 < s.size := by omega
  obtain ⟨em1, em2⟩ := full_facts h0
  have hb := (s[0]'h1).toNat_lt
  clear h0
  by_cases k0 : (s[0]'h1).toNat = 0
  · rw [cutS_0 h1 k0]
    have e0 : ((s[0]'h1).toNat : Int) = 0 := by omega
    clear k0
    go_enter Tryd.func66, Tryd.ntmps66
    go_upto_region 4 with fail
    generalize hw_ : (w.alloc (.cells #[.int .i64 0, .int .i64 0, .string { data := #[] }] 23)).alloc (.cells #[.int .i64 0, .int .i64 0, .string { data := #[] }] 23) = w1
    have hx1 : Ext ((w.alloc (.cells #[.int .i64 0, .int .i64 0, .string { data := #[] }] 23)).alloc (.cells #[.int .i64 0, .int .i64 0, .string { data := #[] }] 23)) w1 := by rw [hw_]; exact Ext.refl _
    clear hw_
    have ht1 : Hid (There w1 w.heap.size 3) := There.ext (There.ext (There.new w #[.int .i64 0, .int .i64 0, .string { data := #[] }] 23 (by decide)) ((Ext.refl _).alloc_right _)) hx1
    have tv : Hid (There w1 (w.heap.size + 1) 3) := There.ext (There.newb (w.alloc (.cells #[.int .i64 0, .int .i64 0, .string { data := #[] }] 23)) #[.int .i64 0, .int .i64 0, .string { data := #[] }] 23 (n := 3) (b := w.heap.size + 1) (by simp) (by simp)) hx1
    have v0 : w1.cell? ⟨w.heap.size + 1, 0, none⟩ = some (.int .i64 0) := hx1.cell (by go_simp)
    have v1 : w1.cell? ⟨w.heap.size + 1, 1, none⟩ = some (.int .i64 0) := hx1.cell (by go_simp)
    have v2 : w1.cell? ⟨w.heap.size + 1, 2, none⟩ = some (.string { data := #[] }) := hx1.cell (by go_simp)
    have hE1 := hid (Ext.trans (((Ext.refl w).alloc_right _).alloc_right _) hx1)
    have lt2 : w.heap.size + 1 < w1.heap.size := World.block_lt_of_cell? w1 _ v0
    have lt1 : w.heap.size < w1.heap.size := by omega
    clear hx1
    have ht := ht1
    have hEw := hE1
    have p0 := ht.out.cell (o := 0) (by omega)
    have f0 := ht.out.free (o := 0) (by omega)
    have p1 := ht.out.cell (o := 1) (by omega)
    have f1 := ht.out.free (o := 1) (by omega)
    have p2 := ht.out.cell (o := 2) (by omega)
    have f2 := ht.out.free (o := 2) (by omega)
    have kk := hid (put3 ht.out (.int .i64 0) (.int .i64 0) (.string { data := #[] }))
    have Fin := hid (((hEw.out.set (p := ⟨w.heap.size, 0, none⟩) (Nat.le_refl _) (.int .i64 0)).set (p := ⟨w.heap.size, 1, none⟩) (Nat.le_refl _) (.int .i64 0)).set (p := ⟨w.heap.size, 2, none⟩) (Nat.le_refl _) (.string { data := #[] }))
    clear ht hEw
    go_wp2
    obtain ⟨k0, k1, k2⟩ := kk.out
    exact bodyPost_ret (v := .tuple #[.agg #[.int .i64 0, .int .i64 0, .string { data := #[] }], .int .i64 1]) (by simp [results, Tryd.results66, go_sem, k0, k1, k2]) rfl (GiveCut.some_ 0 0 [] 1 Fin.out)
  by_cases k4 : (s[0]'h1).toNat = 4
  · rw [cutS_4 h1 k4]
    have e0 : ((s[0]'h1).toNat : Int) = 4 := by omega
    clear k0 k4
    have hc := hid (fun w => cutText_any s h1 hs w)
    generalize cutT [] 1 (s.toList.drop 1) = R at *
    go_enter Tryd.func66, Tryd.ntmps66
    go_upto_region 4 with fail
    generalize hw_ : (w.alloc (.cells #[.int .i64 0, .int .i64 0, .string { data := #[] }] 23)).alloc (.cells #[.int .i64 4, .int .i64 0, .string { data := #[] }] 23) = w1
    have hx1 : Ext ((w.alloc (.cells #[.int .i64 0, .int .i64 0, .string { data := #[] }] 23)).alloc (.cells #[.int .i64 4, .int .i64 0, .string { data := #[] }] 23)) w1 := by rw [hw_]; exact Ext.refl _
    clear hw_
    have ht1 : Hid (There w1 w.heap.size 3) := There.ext (There.ext (There.new w #[.int .i64 0, .int .i64 0, .string { data := #[] }] 23 (by decide)) ((Ext.refl _).alloc_right _)) hx1
    have tv : Hid (There w1 (w.heap.size + 1) 3) := There.ext (There.newb (w.alloc (.cells #[.int .i64 0, .int .i64 0, .string { data := #[] }] 23)) #[.int .i64 4, .int .i64 0, .string { data := #[] }] 23 (n := 3) (b := w.heap.size + 1) (by simp) (by simp)) hx1
    have v0 : w1.cell? ⟨w.heap.size + 1, 0, none⟩ = some (.int .i64 4) := hx1.cell (by go_simp)
    have v1 : w1.cell? ⟨w.heap.size + 1, 1, none⟩ = some (.int .i64 0) := hx1.cell (by go_simp)
    have v2 : w1.cell? ⟨w.heap.size + 1, 2, none⟩ = some (.string { data := #[] }) := hx1.cell (by go_simp)
    have hE1 := hid (Ext.trans (((Ext.refl w).alloc_right _).alloc_right _) hx1)
    have lt2 : w.heap.size + 1 < w1.heap.size := World.block_lt_of_cell? w1 _ v0
    have lt1 : w.heap.size < w1.heap.size := by omega
    clear hx1
    cases R with
    | none =>
      go_wp2_with fail
      refine (hc.out _).mono ?_
      rintro e w2 ⟨rfl, hx2⟩
      unfold vV
      have ht := hid (ht1.out.ext hx2)
      have hEw := hid (hE1.out.trans hx2)
      clear hx2
      have p0 := ht.out.cell (o := 0) (by omega)
      have f0 := ht.out.free (o := 0) (by omega)
      have p1 := ht.out.cell (o := 1) (by omega)
      have f1 := ht.out.free (o := 1) (by omega)
      have p2 := ht.out.cell (o := 2) (by omega)
      have f2 := ht.out.free (o := 2) (by omega)
      have kk := hid (put3 ht.out (.int .i64 0) (.int .i64 0) (.string { data := #[] }))
      have Fin := hid (((hEw.out.set (p := ⟨w.heap.size, 0, none⟩) (Nat.le_refl _) (.int .i64 0)).set (p := ⟨w.heap.size, 1, none⟩) (Nat.le_refl _) (.int .i64 0)).set (p := ⟨w.heap.size, 2, none⟩) (Nat.le_refl _) (.string { data := #[] }))
      clear ht hEw
      go_wp2
      obtain ⟨k0, k1, k2⟩ := kk.out
      exact bodyPost_ret (v := .tuple #[.agg #[.int .i64 0, .int .i64 0, .string { data := #[] }], .int .i64 0]) (by simp [results, Tryd.results66, go_sem, k0, k1, k2]) rfl (GiveCut.none_ Fin.out)
    | some x =>
      obtain ⟨t, q⟩ := x
      go_wp2_with fail
      refine (hc.out _).mono ?_
      rintro e w2 ⟨rfl, hx2⟩
      unfold vV
      have ht := hid (ht1.out.ext hx2)
      have hEw := hid (hE1.out.trans hx2)
      clear hx2
      have p0 := ht.out.cell (o := 0) (by omega)
      have f0 := ht.out.free (o := 0) (by omega)
      have p1 := ht.out.cell (o := 1) (by omega)
      have f1 := ht.out.free (o := 1) (by omega)
      have p2 := ht.out.cell (o := 2) (by omega)
      have f2 := ht.out.free (o := 2) (by omega)
      have kk := hid (put3 ht.out (.int .i64 4) (.int .i64 0) (.string (strB t)))
      have Fin := hid (((hEw.out.set (p := ⟨w.heap.size, 0, none⟩) (Nat.le_refl _) (.int .i64 4)).set (p := ⟨w.heap.size, 1, none⟩) (Nat.le_refl _) (.int .i64 0)).set (p := ⟨w.heap.size, 2, none⟩) (Nat.le_refl _) (.string (strB t)))
      clear ht hEw
      go_wp2
      obtain ⟨k0, k1, k2⟩ := kk.out
      exact bodyPost_ret (v := .tuple #[.agg #[.int .i64 4, .int .i64 0, .string (strB t)], .int .i64 (q : Nat)]) (by simp [results, Tryd.results66, go_sem, k0, k1, k2]) rfl (GiveCut.some_ 4 0 t q Fin.out)
  by_cases k5 : 4 < (s[0]'h1).toNat
  · rw [cutS_no h1 k5]
    obtain ⟨x, hx⟩ : ∃ x : Int, x = ((s[0]'h1).toNat : Int) := ⟨_, rfl⟩
    have x5 : 4 < x := by omega
    have d0 : (x == 0) = false := by simp; omega
    have d1 : (x == 1) = false := by simp; omega
    have d2 : (x == 2) = false := by simp; omega
    have d3 : (x == 3) = false := by simp; omega
    have d4 : (x == 4) = false := by simp; omega
    replace hx := hx.symm
    clear k0 k4 k5
    go_enter Tryd.func66, Tryd.ntmps66
    go_upto_region 4 with fail
    generalize hw_ : (w.alloc (.cells #[.int .i64 0, .int .i64 0, .string { data := #[] }] 23)).alloc (.cells #[.int .i64 x, .int .i64 0, .string { data := #[] }] 23) = w1
    have hx1 : Ext ((w.alloc (.cells #[.int .i64 0, .int .i64 0, .string { data := #[] }] 23)).alloc (.cells #[.int .i64 x, .int .i64 0, .string { data := #[] }] 23)) w1 := by rw [hw_]; exact Ext.refl _
    clear hw_
    have ht1 : Hid (There w1 w.heap.size 3) := There.ext (There.ext (There.new w #[.int .i64 0, .int .i64 0, .string { data := #[] }] 23 (by decide)) ((Ext.refl _).alloc_right _)) hx1
    have tv : Hid (There w1 (w.heap.size + 1) 3) := There.ext (There.newb (w.alloc (.cells #[.int .i64 0, .int .i64 0, .string { data := #[] }] 23)) #[.int .i64 x, .int .i64 0, .string { data := #[] }] 23 (n := 3) (b := w.heap.size + 1) (by simp) (by simp)) hx1
    have v0 : w1.cell? ⟨w.heap.size + 1, 0, none⟩ = some (.int .i64 x) := hx1.cell (by go_simp)
    have v1 : w1.cell? ⟨w.heap.size + 1, 1, none⟩ = some (.int .i64 0) := hx1.cell (by go_simp)
    have v2 : w1.cell? ⟨w.heap.size + 1, 2, none⟩ = some (.string { data := #[] }) := hx1.cell (by go_simp)
    have hE1 := hid (Ext.trans (((Ext.refl w).alloc_right _).alloc_right _) hx1)
    have lt2 : w.heap.size + 1 < w1.heap.size := World.block_lt_of_cell? w1 _ v0
    have lt1 : w.heap.size < w1.heap.size := by omega
    clear hx1
    clear hx
    have ht := ht1
    have hEw := hE1
    have p0 := ht.out.cell (o := 0) (by omega)
    have f0 := ht.out.free (o := 0) (by omega)
    have p1 := ht.out.cell (o := 1) (by omega)
    have f1 := ht.out.free (o := 1) (by omega)
    have p2 := ht.out.cell (o := 2) (by omega)
    have f2 := ht.out.free (o := 2) (by omega)
    have kk := hid (put3 ht.out (.int .i64 x) (.int .i64 0) (.string { data := #[] }))
    have Fin := hid (((hEw.out.set (p := ⟨w.heap.size, 0, none⟩) (Nat.le_refl _) (.int .i64 x)).set (p := ⟨w.heap.size, 1, none⟩) (Nat.le_refl _) (.int .i64 0)).set (p := ⟨w.heap.size, 2, none⟩) (Nat.le_refl _) (.string { data := #[] }))
    clear ht hEw
    go_wp2
    obtain ⟨k0, k1, k2⟩ := kk.out
    exact bodyPost_ret (v := .tuple #[.agg #[.int .i64 x, .int .i64 0, .string { data := #[] }], .int .i64 0]) (by simp [results, Tryd.results66, go_sem, k0, k1, k2]) rfl (GiveCut.none_ Fin.out)
  have hk3 : (s[0]'h1).toNat = 1 ∨ (s[0]'h1).toNat = 2 ∨ (s[0]'h1).toNat = 3 := by omega
  clear k0 k4 k5
  rcases hk3 with hk3 | hk3 | hk3
  · rw [cutS_n h1 hk3 (by decide) (show sizeK 1 = 1 by decide)]
    rw [show ((1 : Nat) : Int) = 1 from rfl]
    have e0 : ((s[0]'h1).toNat : Int) = 1 := by omega
    clear hk3
    by_cases hz : s.size < 1 + 1
    · rw [if_pos hz]
      have dz : decide ((s.size : Int) < 2) = true := by simp; omega
      clear hz
      go_enter Tryd.func66, Tryd.ntmps66
      go_upto_region 4 with fail
      generalize hw_ : (w.alloc (.cells #[.int .i64 0, .int .i64 0, .string { data := #[] }] 23)).alloc (.cells #[.int .i64 1, .int .i64 0, .string { data := #[] }] 23) = w1
      have hx1 : Ext ((w.alloc (.cells #[.int .i64 0, .int .i64 0, .string { data := #[] }] 23)).alloc (.cells #[.int .i64 1, .int .i64 0, .string { data := #[] }] 23)) w1 := by rw [hw_]; exact Ext.refl _
      clear hw_
      have ht1 : Hid (There w1 w.heap.size 3) := There.ext (There.ext (There.new w #[.int .i64 0, .int .i64 0, .string { data := #[] }] 23 (by decide)) ((Ext.refl _).alloc_right _)) hx1
      have tv : Hid (There w1 (w.heap.size + 1) 3) := There.ext (There.newb (w.alloc (.cells #[.int .i64 0, .int .i64 0, .string { data := #[] }] 23)) #[.int .i64 1, .int .i64 0, .string { data := #[] }] 23 (n := 3) (b := w.heap.size + 1) (by simp) (by simp)) hx1
      have v0 : w1.cell? ⟨w.heap.size + 1, 0, none⟩ = some (.int .i64 1) := hx1.cell (by go_simp)
      have v1 : w1.cell? ⟨w.heap.size + 1, 1, none⟩ = some (.int .i64 0) := hx1.cell (by go_simp)
      have v2 : w1.cell? ⟨w.heap.size + 1, 2, none⟩ = some (.string { data := #[] }) := hx1.cell (by go_simp)
      have hE1 := hid (Ext.trans (((Ext.refl w).alloc_right _).alloc_right _) hx1)
      have lt2 : w.heap.size + 1 < w1.heap.size := World.block_lt_of_cell? w1 _ v0
      have lt1 : w.heap.size < w1.heap.size := by omega
      clear hx1
      have ht := ht1
      have hEw := hE1
      have p0 := ht.out.cell (o := 0) (by omega)
      have f0 := ht.out.free (o := 0) (by omega)
      have p1 := ht.out.cell (o := 1) (by omega)
      have f1 := ht.out.free (o := 1) (by omega)
      have p2 := ht.out.cell (o := 2) (by omega)
      have f2 := ht.out.free (o := 2) (by omega)
      have kk := hid (put3 ht.out (.int .i64 1) (.int .i64 0) (.string { data := #[] }))
      have Fin := hid (((hEw.out.set (p := ⟨w.heap.size, 0, none⟩) (Nat.le_refl _) (.int .i64 1)).set (p := ⟨w.heap.size, 1, none⟩) (Nat.le_refl _) (.int .i64 0)).set (p := ⟨w.heap.size, 2, none⟩) (Nat.le_refl _) (.string { data := #[] }))
      clear ht hEw
      go_wp2
      obtain ⟨k0, k1, k2⟩ := kk.out
      exact bodyPost_ret (v := .tuple #[.agg #[.int .i64 1, .int .i64 0, .string { data := #[] }], .int .i64 0]) (by simp [results, Tryd.results66, go_sem, k0, k1, k2]) rfl (GiveCut.none_ Fin.out)
    rw [if_neg hz]
    have dz : decide ((s.size : Int) < 2) = false := by simp; omega
    have hz1 := ext1_size s hz
    have sl : ∀ wx, (Instr.slice 9 (.string s) (some (.int .i64 1)) (some (.int .i64 2)) none).run Tryd.prog wx = .ok (.string (s.extract 1 2)) wx := by
      intro wx
      rw [run_slice_string_if (P := Tryd.prog) wx 9 s .i64 .i64 1 2 Tryd.underlying9, if_pos ⟨by omega, by omega⟩, if_pos ⟨by omega, by omega⟩]
      rfl
    have hc := hid (fun w => number_any (s.extract 1 2) (by rw [show 2 = 1 + 1 from rfl, hz1]; omega) w)
    rw [show (s.extract 1 2).toList = (s.toList.drop 1).take 1 from ext1_list s 1] at hc
    generalize s.extract 1 2 = S at *
    generalize s.toList.drop 1 = r at *
    rw [num_is (k := 1) (by decide) (by decide)] at hc
    generalize numK 1 r = X at *
    have hv := hid (valE_e 1 X)
    rcases Bool.eq_false_or_eq_true (isV 1 X ByteArray.empty) with hV | hV
    · rw [if_pos (by rw [hV])]
      have hve : valE 1 X { data := #[] } = 0 := by rw [hv.out, hV]; rfl
      clear hV hv
      replace hve := hid hve
      go_enter Tryd.func66, Tryd.ntmps66
      go_upto_region 4 with fail
      generalize hw_ : (w.alloc (.cells #[.int .i64 0, .int .i64 0, .string { data := #[] }] 23)).alloc (.cells #[.int .i64 1, .int .i64 0, .string { data := #[] }] 23) = w1
      have hx1 : Ext ((w.alloc (.cells #[.int .i64 0, .int .i64 0, .string { data := #[] }] 23)).alloc (.cells #[.int .i64 1, .int .i64 0, .string { data := #[] }] 23)) w1 := by rw [hw_]; exact Ext.refl _
      clear hw_
      have ht1 : Hid (There w1 w.heap.size 3) := There.ext (There.ext (There.new w #[.int .i64 0, .int .i64 0, .string { data := #[] }] 23 (by decide)) ((Ext.refl _).alloc_right _)) hx1
      have tv : Hid (There w1 (w.heap.size + 1) 3) := There.ext (There.newb (w.alloc (.cells #[.int .i64 0, .int .i64 0, .string { data := #[] }] 23)) #[.int .i64 1, .int .i64 0, .string { data := #[] }] 23 (n := 3) (b := w.heap.size + 1) (by simp) (by simp)) hx1
      have v0 : w1.cell? ⟨w.heap.size + 1, 0, none⟩ = some (.int .i64 1) := hx1.cell (by go_simp)
      have v1 : w1.cell? ⟨w.heap.size + 1, 1, none⟩ = some (.int .i64 0) := hx1.cell (by go_simp)
      have v2 : w1.cell? ⟨w.heap.size + 1, 2, none⟩ = some (.string { data := #[] }) := hx1.cell (by go_simp)
      have hE1 := hid (Ext.trans (((Ext.refl w).alloc_right _).alloc_right _) hx1)
      have lt2 : w.heap.size + 1 < w1.heap.size := World.block_lt_of_cell? w1 _ v0
      have lt1 : w.heap.size < w1.heap.size := by omega
      clear hx1
      have fv := tv.out.free (o := 1) (by omega)
      go_wp2_with fail
      refine (hc.out _).mono ?_
      rintro e w' ⟨rfl, rfl⟩
      go_upto_region 22 with fail
      generalize hw_ : w1.setCell ⟨w.heap.size + 1, 1, none⟩ (.int .i64 X) = w2
      have u0 : w2.cell? ⟨w.heap.size + 1, 0, none⟩ = some (.int .i64 1) := by rw [← hw_]; exact set_keep v0 (off_ne (by decide))
      have u1 : w2.cell? ⟨w.heap.size + 1, 1, none⟩ = some (.int .i64 X) := by rw [← hw_]; exact set_get v1
      have u2 : w2.cell? ⟨w.heap.size + 1, 2, none⟩ = some (.string { data := #[] }) := by rw [← hw_]; exact set_keep v2 (off_ne (by decide))
      have ht2 : Hid (There w2 w.heap.size 3) := by rw [← hw_]; exact ht1.out.set _ _
      have hE2 : Hid (Ext w w2) := by rw [← hw_]; exact hE1.out.set (by simp) _
      clear hw_ v0 v1 v2 lt2 lt1 tv fv ht1 hE1 hc
      have lt2 : w.heap.size + 1 < w2.heap.size := World.block_lt_of_cell? w2 _ u0
      have lt1 : w.heap.size < w2.heap.size := by omega
      go_wp2_with fail
      refine (Validate_any 1 X { data := #[] } w2).mono ?_
      rw [hve.out]
      rintro e w3 ⟨rfl, hx3⟩
      replace u0 := hx3.cell u0
      replace u1 := hx3.cell u1
      replace u2 := hx3.cell u2
      have ht := hid (ht2.out.ext hx3)
      have hEw := hid (hE2.out.trans hx3)
      clear hx3 ht2 hE2 lt2 lt1
      have lt2 : w.heap.size + 1 < w3.heap.size := World.block_lt_of_cell? w3 _ u0
      have lt1 : w.heap.size < w3.heap.size := by omega
      have p0 := ht.out.cell (o := 0) (by omega)
      have f0 := ht.out.free (o := 0) (by omega)
      have p1 := ht.out.cell (o := 1) (by omega)
      have f1 := ht.out.free (o := 1) (by omega)
      have p2 := ht.out.cell (o := 2) (by omega)
      have f2 := ht.out.free (o := 2) (by omega)
      have kk := hid (put3 ht.out (.int .i64 1) (.int .i64 X) (.string { data := #[] }))
      have Fin := hid (((hEw.out.set (p := ⟨w.heap.size, 0, none⟩) (Nat.le_refl _) (.int .i64 1)).set (p := ⟨w.heap.size, 1, none⟩) (Nat.le_refl _) (.int .i64 X)).set (p := ⟨w.heap.size, 2, none⟩) (Nat.le_refl _) (.string { data := #[] }))
      clear ht hEw
      go_wp2
      obtain ⟨k0, k1, k2⟩ := kk.out
      exact bodyPost_ret (v := .tuple #[.agg #[.int .i64 1, .int .i64 X, .string { data := #[] }], .int .i64 2]) (by simp [results, Tryd.results66, go_sem, k0, k1, k2]) rfl (GiveCut.some_ 1 X [] 2 Fin.out)
    · rw [if_neg (by rw [hV]; simp)]
      have hve : valE 1 X { data := #[] } = 1 := by rw [hv.out, hV]; rfl
      clear hV hv
      replace hve := hid hve
      go_enter Tryd.func66, Tryd.ntmps66
      go_upto_region 4 with fail
      generalize hw_ : (w.alloc (.cells #[.int .i64 0, .int .i64 0, .string { data := #[] }] 23)).alloc (.cells #[.int .i64 1, .int .i64 0, .string { data := #[] }] 23) = w1
      have hx1 : Ext ((w.alloc (.cells #[.int .i64 0, .int .i64 0, .string { data := #[] }] 23)).alloc (.cells #[.int .i64 1, .int .i64 0, .string { data := #[] }] 23)) w1 := by rw [hw_]; exact Ext.refl _
      clear hw_
      have ht1 : Hid (There w1 w.heap.size 3) := There.ext (There.ext (There.new w #[.int .i64 0, .int .i64 0, .string { data := #[] }] 23 (by decide)) ((Ext.refl _).alloc_right _)) hx1
      have tv : Hid (There w1 (w.heap.size + 1) 3) := There.ext (There.newb (w.alloc (.cells #[.int .i64 0, .int .i64 0, .string { data := #[] }] 23)) #[.int .i64 1, .int .i64 0, .string { data := #[] }] 23 (n := 3) (b := w.heap.size + 1) (by simp) (by simp)) hx1
      have v0 : w1.cell? ⟨w.heap.size + 1, 0, none⟩ = some (.int .i64 1) := hx1.cell (by go_simp)
      have v1 : w1.cell? ⟨w.heap.size + 1, 1, none⟩ = some (.int .i64 0) := hx1.cell (by go_simp)
      have v2 : w1.cell? ⟨w.heap.size + 1, 2, none⟩ = some (.string { data := #[] }) := hx1.cell (by go_simp)
      have hE1 := hid (Ext.trans (((Ext.refl w).alloc_right _).alloc_right _) hx1)
      have lt2 : w.heap.size + 1 < w1.heap.size := World.block_lt_of_cell? w1 _ v0
      have lt1 : w.heap.size < w1.heap.size := by omega
      clear hx1
      have fv := tv.out.free (o := 1) (by omega)
      go_wp2_with fail
      refine (hc.out _).mono ?_
      rintro e w' ⟨rfl, rfl⟩
      go_upto_region 22 with fail
      generalize hw_ : w1.setCell ⟨w.heap.size + 1, 1, none⟩ (.int .i64 X) = w2
      have u0 : w2.cell? ⟨w.heap.size + 1, 0, none⟩ = some (.int .i64 1) := by rw [← hw_]; exact set_keep v0 (off_ne (by decide))
      have u1 : w2.cell? ⟨w.heap.size + 1, 1, none⟩ = some (.int .i64 X) := by rw [← hw_]; exact set_get v1
      have u2 : w2.cell? ⟨w.heap.size + 1, 2, none⟩ = some (.string { data := #[] }) := by rw [← hw_]; exact set_keep v2 (off_ne (by decide))
      have ht2 : Hid (There w2 w.heap.size 3) := by rw [← hw_]; exact ht1.out.set _ _
      have hE2 : Hid (Ext w w2) := by rw [← hw_]; exact hE1.out.set (by simp) _
      clear hw_ v0 v1 v2 lt2 lt1 tv fv ht1 hE1 hc
      have lt2 : w.heap.size + 1 < w2.heap.size := World.block_lt_of_cell? w2 _ u0
      have lt1 : w.heap.size < w2.heap.size := by omega
      go_wp2_with fail
      refine (Validate_any 1 X { data := #[] } w2).mono ?_
      rw [hve.out]
      rintro e w3 ⟨rfl, hx3⟩
      replace u0 := hx3.cell u0
      replace u1 := hx3.cell u1
      replace u2 := hx3.cell u2
      have ht := hid (ht2.out.ext hx3)
      have hEw := hid (hE2.out.trans hx3)
      clear hx3 ht2 hE2 lt2 lt1
      have lt2 : w.heap.size + 1 < w3.heap.size := World.block_lt_of_cell? w3 _ u0
      have lt1 : w.heap.size < w3.heap.size := by omega
      have p0 := ht.out.cell (o := 0) (by omega)
      have f0 := ht.out.free (o := 0) (by omega)
      have p1 := ht.out.cell (o := 1) (by omega)
      have f1 := ht.out.free (o := 1) (by omega)
      have p2 := ht.out.cell (o := 2) (by omega)
      have f2 := ht.out.free (o := 2) (by omega)
      have kk := hid (put3 ht.out (.int .i64 1) (.int .i64 X) (.string { data := #[] }))
      have Fin := hid (((hEw.out.set (p := ⟨w.heap.size, 0, none⟩) (Nat.le_refl _) (.int .i64 1)).set (p := ⟨w.heap.size, 1, none⟩) (Nat.le_refl _) (.int .i64 X)).set (p := ⟨w.heap.size, 2, none⟩) (Nat.le_refl _) (.string { data := #[] }))
      clear ht hEw
      go_wp2
      obtain ⟨k0, k1, k2⟩ := kk.out
      exact bodyPost_ret (v := .tuple #[.agg #[.int .i64 1, .int .i64 X, .string { data := #[] }], .int .i64 0]) (by simp [results, Tryd.results66, go_sem, k0, k1, k2]) rfl (GiveCut.none_ Fin.out)
  · rw [cutS_n h1 hk3 (by decide) (show sizeK 2 = 8 by decide)]
    rw [show ((2 : Nat) : Int) = 2 from rfl]
    have e0 : ((s[0]'h1).toNat : Int) = 2 := by omega
    clear hk3
    by_cases hz : s.size < 1 + 8
    · rw [if_pos hz]
      have dz : decide ((s.size : Int) < 9) = true := by simp; omega
      clear hz
      go_enter Tryd.func66, Tryd.ntmps66
      go_upto_region 4 with fail
      generalize hw_ : (w.alloc (.cells #[.int .i64 0, .int .i64 0, .string { data := #[] }] 23)).alloc (.cells #[.int .i64 2, .int .i64 0, .string { data := #[] }] 23) = w1
      have hx1 : Ext ((w.alloc (.cells #[.int .i64 0, .int .i64 0, .string { data := #[] }] 23)).alloc (.cells #[.int .i64 2, .int .i64 0, .string { data := #[] }] 23)) w1 := by rw [hw_]; exact Ext.refl _
      clear hw_
      have ht1 : Hid (There w1 w.heap.size 3) := There.ext (There.ext (There.new w #[.int .i64 0, .int .i64 0, .string { data := #[] }] 23 (by decide)) ((Ext.refl _).alloc_right _)) hx1
      have tv : Hid (There w1 (w.heap.size + 1) 3) := There.ext (There.newb (w.alloc (.cells #[.int .i64 0, .int .i64 0, .string { data := #[] }] 23)) #[.int .i64 2, .int .i64 0, .string { data := #[] }] 23 (n := 3) (b := w.heap.size + 1) (by simp) (by simp)) hx1
      have v0 : w1.cell? ⟨w.heap.size + 1, 0, none⟩ = some (.int .i64 2) := hx1.cell (by go_simp)
      have v1 : w1.cell? ⟨w.heap.size + 1, 1, none⟩ = some (.int .i64 0) := hx1.cell (by go_simp)
      have v2 : w1.cell? ⟨w.heap.size + 1, 2, none⟩ = some (.string { data := #[] }) := hx1.cell (by go_simp)
      have hE1 := hid (Ext.trans (((Ext.refl w).alloc_right _).alloc_right _) hx1)
      have lt2 : w.heap.size + 1 < w1.heap.size := World.block_lt_of_cell? w1 _ v0
      have lt1 : w.heap.size < w1.heap.size := by omega
      clear hx1
      have ht := ht1
      have hEw := hE1
      have p0 := ht.out.cell (o := 0) (by omega)
      have f0 := ht.out.free (o := 0) (by omega)
      have p1 := ht.out.cell (o := 1) (by omega)
      have f1 := ht.out.free (o := 1) (by omega)
      have p2 := ht.out.cell (o := 2) (by omega)
      have f2 := ht.out.free (o := 2) (by omega)
      have kk := hid (put3 ht.out (.int .i64 2) (.int .i64 0) (.string { data := #[] }))
      have Fin := hid (((hEw.out.set (p := ⟨w.heap.size, 0, none⟩) (Nat.le_refl _) (.int .i64 2)).set (p := ⟨w.heap.size, 1, none⟩) (Nat.le_refl _) (.int .i64 0)).set (p := ⟨w.heap.size, 2, none⟩) (Nat.le_refl _) (.string { data := #[] }))
      clear ht hEw
      go_wp2
      obtain ⟨k0, k1, k2⟩ := kk.out
      exact bodyPost_ret (v := .tuple #[.agg #[.int .i64 2, .int .i64 0, .string { data := #[] }], .int .i64 0]) (by simp [results, Tryd.results66, go_sem, k0, k1, k2]) rfl (GiveCut.none_ Fin.out)
    rw [if_neg hz]
    have dz : decide ((s.size : Int) < 9) = false := by simp; omega
    have hz1 := ext1_size s hz
    have sl : ∀ wx, (Instr.slice 9 (.string s) (some (.int .i64 1)) (some (.int .i64 9)) none).run Tryd.prog wx = .ok (.string (s.extract 1 9)) wx := by
      intro wx
      rw [run_slice_string_if (P := Tryd.prog) wx 9 s .i64 .i64 1 9 Tryd.underlying9, if_pos ⟨by omega, by omega⟩, if_pos ⟨by omega, by omega⟩]
      rfl
    have hc := hid (fun w => number_any (s.extract 1 9) (by rw [show 9 = 1 + 8 from rfl, hz1]; omega) w)
    rw [show (s.extract 1 9).toList = (s.toList.drop 1).take 8 from ext1_list s 8] at hc
    generalize s.extract 1 9 = S at *
    generalize s.toList.drop 1 = r at *
    have hw8 := num_wrap (beN_lt8 (l := r.take 8) (by rw [List.length_take]; omega))
    have hrg := w64_rng (beN (r.take 8) : Int)
    rw [show numK 2 r = (beN (r.take 8) : Int) - 1000000000000000 from rfl]
    generalize (beN (r.take 8) : Int) - 1000000000000000 = Q at *
    generalize w64 (beN (r.take 8) : Int) = Y at *
    obtain ⟨X, hX⟩ : ∃ X, X = w64 (Y - 1000000000000000) := ⟨_, rfl⟩
    rw [← hX] at hw8
    have ex : wrap64 (Y - 1000000000000000) = X := by rw [hX, w64_64]
    have hv := hid (valE_e 2 X)
    have hiv : isV 2 X ByteArray.empty = isV 2 Q ByteArray.empty := by rw [isV_2, isV_2, hw8.1]
    have hXQ : Hid (isV 2 Q ByteArray.empty = true → X = Q) := by intro h; rw [isV_2] at h; simp only [Bool.and_eq_true] at h; exact hw8.2 h.1
    replace hiv := hid hiv
    clear hw8 hX
    rcases Bool.eq_false_or_eq_true (isV 2 Q ByteArray.empty) with hV | hV
    · rw [if_pos (by rw [hV])]
      have hve : valE 2 X { data := #[] } = 0 := by rw [hv.out, hiv.out, hV]; rfl
      have hxq := hid (hXQ.out hV)
      rw [← hxq.out]
      clear hV hv hiv hXQ
      replace hve := hid hve
      go_enter Tryd.func66, Tryd.ntmps66
      go_upto_region 4 with fail
      generalize hw_ : (w.alloc (.cells #[.int .i64 0, .int .i64 0, .string { data := #[] }] 23)).alloc (.cells #[.int .i64 2, .int .i64 0, .string { data := #[] }] 23) = w1
      have hx1 : Ext ((w.alloc (.cells #[.int .i64 0, .int .i64 0, .string { data := #[] }] 23)).alloc (.cells #[.int .i64 2, .int .i64 0, .string { data := #[] }] 23)) w1 := by rw [hw_]; exact Ext.refl _
      clear hw_
      have ht1 : Hid (There w1 w.heap.size 3) := There.ext (There.ext (There.new w #[.int .i64 0, .int .i64 0, .string { data := #[] }] 23 (by decide)) ((Ext.refl _).alloc_right _)) hx1
      have tv : Hid (There w1 (w.heap.size + 1) 3) := There.ext (There.newb (w.alloc (.cells #[.int .i64 0, .int .i64 0, .string { data := #[] }] 23)) #[.int .i64 2, .int .i64 0, .string { data := #[] }] 23 (n := 3) (b := w.heap.size + 1) (by simp) (by simp)) hx1
      have v0 : w1.cell? ⟨w.heap.size + 1, 0, none⟩ = some (.int .i64 2) := hx1.cell (by go_simp)
      have v1 : w1.cell? ⟨w.heap.size + 1, 1, none⟩ = some (.int .i64 0) := hx1.cell (by go_simp)
      have v2 : w1.cell? ⟨w.heap.size + 1, 2, none⟩ = some (.string { data := #[] }) := hx1.cell (by go_simp)
      have hE1 := hid (Ext.trans (((Ext.refl w).alloc_right _).alloc_right _) hx1)
      have lt2 : w.heap.size + 1 < w1.heap.size := World.block_lt_of_cell? w1 _ v0
      have lt1 : w.heap.size < w1.heap.size := by omega
      clear hx1
      have fv := tv.out.free (o := 1) (by omega)
      go_wp2_with fail
      refine (hc.out _).mono ?_
      rintro e w' ⟨rfl, rfl⟩
      go_upto_region 22 with fail
      generalize hw_ : (w1.setCell ⟨w.heap.size + 1, 1, none⟩ (.int .i64 Y)).setCell ⟨w.heap.size + 1, 1, none⟩ (.int .i64 X) = w2
      have u0 : w2.cell? ⟨w.heap.size + 1, 0, none⟩ = some (.int .i64 2) := by rw [← hw_]; exact set_keep (set_keep v0 (off_ne (by decide))) (off_ne (by decide))
      have u1 : w2.cell? ⟨w.heap.size + 1, 1, none⟩ = some (.int .i64 X) := by rw [← hw_]; exact set_get (set_get v1)
      have u2 : w2.cell? ⟨w.heap.size + 1, 2, none⟩ = some (.string { data := #[] }) := by rw [← hw_]; exact set_keep (set_keep v2 (off_ne (by decide))) (off_ne (by decide))
      have ht2 : Hid (There w2 w.heap.size 3) := by rw [← hw_]; exact (ht1.out.set _ _).set _ _
      have hE2 : Hid (Ext w w2) := by rw [← hw_]; exact (hE1.out.set (by simp) _).set (by simp) _
      clear hw_ v0 v1 v2 lt2 lt1 tv fv ht1 hE1 hc
      have lt2 : w.heap.size + 1 < w2.heap.size := World.block_lt_of_cell? w2 _ u0
      have lt1 : w.heap.size < w2.heap.size := by omega
      go_wp2_with fail
      refine (Validate_any 2 X { data := #[] } w2).mono ?_
      rw [hve.out]
      rintro e w3 ⟨rfl, hx3⟩
      replace u0 := hx3.cell u0
      replace u1 := hx3.cell u1
      replace u2 := hx3.cell u2
      have ht := hid (ht2.out.ext hx3)
      have hEw := hid (hE2.out.trans hx3)
      clear hx3 ht2 hE2 lt2 lt1
      have lt2 : w.heap.size + 1 < w3.heap.size := World.block_lt_of_cell? w3 _ u0
      have lt1 : w.heap.size < w3.heap.size := by omega
      have p0 := ht.out.cell (o := 0) (by omega)
      have f0 := ht.out.free (o := 0) (by omega)
      have p1 := ht.out.cell (o := 1) (by omega)
      have f1 := ht.out.free (o := 1) (by omega)
      have p2 := ht.out.cell (o := 2) (by omega)
      have f2 := ht.out.free (o := 2) (by omega)
      have kk := hid (put3 ht.out (.int .i64 2) (.int .i64 X) (.string { data := #[] }))
      have Fin := hid (((hEw.out.set (p := ⟨w.heap.size, 0, none⟩) (Nat.le_refl _) (.int .i64 2)).set (p := ⟨w.heap.size, 1, none⟩) (Nat.le_refl _) (.int .i64 X)).set (p := ⟨w.heap.size, 2, none⟩) (Nat.le_refl _) (.string { data := #[] }))
      clear ht hEw
      go_wp2
      obtain ⟨k0, k1, k2⟩ := kk.out
      exact bodyPost_ret (v := .tuple #[.agg #[.int .i64 2, .int .i64 X, .string { data := #[] }], .int .i64 9]) (by simp [results, Tryd.results66, go_sem, k0, k1, k2]) rfl (GiveCut.some_ 2 X [] 9 Fin.out)
    · rw [if_neg (by rw [hV]; simp)]
      have hve : valE 2 X { data := #[] } = 1 := by rw [hv.out, hiv.out, hV]; rfl
      clear hV hv hiv hXQ
      replace hve := hid hve
      go_enter Tryd.func66, Tryd.ntmps66
      go_upto_region 4 with fail
      generalize hw_ : (w.alloc (.cells #[.int .i64 0, .int .i64 0, .string { data := #[] }] 23)).alloc (.cells #[.int .i64 2, .int .i64 0, .string { data := #[] }] 23) = w1
      have hx1 : Ext ((w.alloc (.cells #[.int .i64 0, .int .i64 0, .string { data := #[] }] 23)).alloc (.cells #[.int .i64 2, .int .i64 0, .string { data := #[] }] 23)) w1 := by rw [hw_]; exact Ext.refl _
      clear hw_
      have ht1 : Hid (There w1 w.heap.size 3) := There.ext (There.ext (There.new w #[.int .i64 0, .int .i64 0, .string { data := #[] }] 23 (by decide)) ((Ext.refl _).alloc_right _)) hx1
      have tv : Hid (There w1 (w.heap.size + 1) 3) := There.ext (There.newb (w.alloc (.cells #[.int .i64 0, .int .i64 0, .string { data := #[] }] 23)) #[.int .i64 2, .int .i64 0, .string { data := #[] }] 23 (n := 3) (b := w.heap.size + 1) (by simp) (by simp)) hx1
      have v0 : w1.cell? ⟨w.heap.size + 1, 0, none⟩ = some (.int .i64 2) := hx1.cell (by go_simp)
      have v1 : w1.cell? ⟨w.heap.size + 1, 1, none⟩ = some (.int .i64 0) := hx1.cell (by go_simp)
      have v2 : w1.cell? ⟨w.heap.size + 1, 2, none⟩ = some (.string { data := #[] }) := hx1.cell (by go_simp)
      have hE1 := hid (Ext.trans (((Ext.refl w).alloc_right _).alloc_right _) hx1)
      have lt2 : w.heap.size + 1 < w1.heap.size := World.block_lt_of_cell? w1 _ v0
      have lt1 : w.heap.size < w1.heap.size := by omega
      clear hx1
      have fv := tv.out.free (o := 1) (by omega)
      go_wp2_with fail
      refine (hc.out _).mono ?_
      rintro e w' ⟨rfl, rfl⟩
      go_upto_region 22 with fail
      generalize hw_ : (w1.setCell ⟨w.heap.size + 1, 1, none⟩ (.int .i64 Y)).setCell ⟨w.heap.size + 1, 1, none⟩ (.int .i64 X) = w2
      have u0 : w2.cell? ⟨w.heap.size + 1, 0, none⟩ = some (.int .i64 2) := by rw [← hw_]; exact set_keep (set_keep v0 (off_ne (by decide))) (off_ne (by decide))
      have u1 : w2.cell? ⟨w.heap.size + 1, 1, none⟩ = some (.int .i64 X) := by rw [← hw_]; exact set_get (set_get v1)
      have u2 : w2.cell? ⟨w.heap.size + 1, 2, none⟩ = some (.string { data := #[] }) := by rw [← hw_]; exact set_keep (set_keep v2 (off_ne (by decide))) (off_ne (by decide))
      have ht2 : Hid (There w2 w.heap.size 3) := by rw [← hw_]; exact (ht1.out.set _ _).set _ _
      have hE2 : Hid (Ext w w2) := by rw [← hw_]; exact (hE1.out.set (by simp) _).set (by simp) _
      clear hw_ v0 v1 v2 lt2 lt1 tv fv ht1 hE1 hc
      have lt2 : w.heap.size + 1 < w2.heap.size := World.block_lt_of_cell? w2 _ u0
      have lt1 : w.heap.size < w2.heap.size := by omega
      go_wp2_with fail
      refine (Validate_any 2 X { data := #[] } w2).mono ?_
      rw [hve.out]
      rintro e w3 ⟨rfl, hx3⟩
      replace u0 := hx3.cell u0
      replace u1 := hx3.cell u1
      replace u2 := hx3.cell u2
      have ht := hid (ht2.out.ext hx3)
      have hEw := hid (hE2.out.trans hx3)
      clear hx3 ht2 hE2 lt2 lt1
      have lt2 : w.heap.size + 1 < w3.heap.size := World.block_lt_of_cell? w3 _ u0
      have lt1 : w.heap.size < w3.heap.size := by omega
      have p0 := ht.out.cell (o := 0) (by omega)
      have f0 := ht.out.free (o := 0) (by omega)
      have p1 := ht.out.cell (o := 1) (by omega)
      have f1 := ht.out.free (o := 1) (by omega)
      have p2 := ht.out.cell (o := 2) (by omega)
      have f2 := ht.out.free (o := 2) (by omega)
      have kk := hid (put3 ht.out (.int .i64 2) (.int .i64 X) (.string { data := #[] }))
      have Fin := hid (((hEw.out.set (p := ⟨w.heap.size, 0, none⟩) (Nat.le_refl _) (.int .i64 2)).set (p := ⟨w.heap.size, 1, none⟩) (Nat.le_refl _) (.int .i64 X)).set (p := ⟨w.heap.size, 2, none⟩) (Nat.le_refl _) (.string { data := #[] }))
      clear ht hEw
      go_wp2
      obtain ⟨k0, k1, k2⟩ := kk.out
      exact bodyPost_ret (v := .tuple #[.agg #[.int .i64 2, .int .i64 X, .string { data := #[] }], .int .i64 0]) (by simp [results, Tryd.results66, go_sem, k0, k1, k2]) rfl (GiveCut.none_ Fin.out)
  · rw [cutS_n h1 hk3 (by decide) (show sizeK 3 = 4 by decide)]
    rw [show ((3 : Nat) : Int) = 3 from rfl]
    have e0 : ((s[0]'h1).toNat : Int) = 3 := by omega
    clear hk3
    by_cases hz : s.size < 1 + 4
    · rw [if_pos hz]
      have dz : decide ((s.size : Int) < 5) = true := by simp; omega
      clear hz
      go_enter Tryd.func66, Tryd.ntmps66
      go_upto_region 4 with fail
      generalize hw_ : (w.alloc (.cells #[.int .i64 0, .int .i64 0, .string { data := #[] }] 23)).alloc (.cells #[.int .i64 3, .int .i64 0, .string { data := #[] }] 23) = w1
      have hx1 : Ext ((w.alloc (.cells #[.int .i64 0, .int .i64 0, .string { data := #[] }] 23)).alloc (.cells #[.int .i64 3, .int .i64 0, .string { data := #[] }] 23)) w1 := by rw [hw_]; exact Ext.refl _
      clear hw_
      have ht1 : Hid (There w1 w.heap.size 3) := There.ext (There.ext (There.new w #[.int .i64 0, .int .i64 0, .string { data := #[] }] 23 (by decide)) ((Ext.refl _).alloc_right _)) hx1
      have tv : Hid (There w1 (w.heap.size + 1) 3) := There.ext (There.newb (w.alloc (.cells #[.int .i64 0, .int .i64 0, .string { data := #[] }] 23)) #[.int .i64 3, .int .i64 0, .string { data := #[] }] 23 (n := 3) (b := w.heap.size + 1) (by simp) (by simp)) hx1
      have v0 : w1.cell? ⟨w.heap.size + 1, 0, none⟩ = some (.int .i64 3) := hx1.cell (by go_simp)
      have v1 : w1.cell? ⟨w.heap.size + 1, 1, none⟩ = some (.int .i64 0) := hx1.cell (by go_simp)
      have v2 : w1.cell? ⟨w.heap.size + 1, 2, none⟩ = some (.string { data := #[] }) := hx1.cell (by go_simp)
      have hE1 := hid (Ext.trans (((Ext.refl w).alloc_right _).alloc_right _) hx1)
      have lt2 : w.heap.size + 1 < w1.heap.size := World.block_lt_of_cell? w1 _ v0
      have lt1 : w.heap.size < w1.heap.size := by omega
      clear hx1
      have ht := ht1
      have hEw := hE1
      have p0 := ht.out.cell (o := 0) (by omega)
      have f0 := ht.out.free (o := 0) (by omega)
      have p1 := ht.out.cell (o := 1) (by omega)
      have f1 := ht.out.free (o := 1) (by omega)
      have p2 := ht.out.cell (o := 2) (by omega)
      have f2 := ht.out.free (o := 2) (by omega)
      have kk := hid (put3 ht.out (.int .i64 3) (.int .i64 0) (.string { data := #[] }))
      have Fin := hid (((hEw.out.set (p := ⟨w.heap.size, 0, none⟩) (Nat.le_refl _) (.int .i64 3)).set (p := ⟨w.heap.size, 1, none⟩) (Nat.le_refl _) (.int .i64 0)).set (p := ⟨w.heap.size, 2, none⟩) (Nat.le_refl _) (.string { data := #[] }))
      clear ht hEw
      go_wp2
      obtain ⟨k0, k1, k2⟩ := kk.out
      exact bodyPost_ret (v := .tuple #[.agg #[.int .i64 3, .int .i64 0, .string { data := #[] }], .int .i64 0]) (by simp [results, Tryd.results66, go_sem, k0, k1, k2]) rfl (GiveCut.none_ Fin.out)
    rw [if_neg hz]
    have dz : decide ((s.size : Int) < 5) = false := by simp; omega
    have hz1 := ext1_size s hz
    have sl : ∀ wx, (Instr.slice 9 (.string s) (some (.int .i64 1)) (some (.int .i64 5)) none).run Tryd.prog wx = .ok (.string (s.extract 1 5)) wx := by
      intro wx
      rw [run_slice_string_if (P := Tryd.prog) wx 9 s .i64 .i64 1 5 Tryd.underlying9, if_pos ⟨by omega, by omega⟩, if_pos ⟨by omega, by omega⟩]
      rfl
    have hc := hid (fun w => number_any (s.extract 1 5) (by rw [show 5 = 1 + 4 from rfl, hz1]; omega) w)
    rw [show (s.extract 1 5).toList = (s.toList.drop 1).take 4 from ext1_list s 4] at hc
    generalize s.extract 1 5 = S at *
    generalize s.toList.drop 1 = r at *
    rw [num_is (k := 3) (by decide) (by decide)] at hc
    generalize numK 3 r = X at *
    have hv := hid (valE_e 3 X)
    rcases Bool.eq_false_or_eq_true (isV 3 X ByteArray.empty) with hV | hV
    · rw [if_pos (by rw [hV])]
      have hve : valE 3 X { data := #[] } = 0 := by rw [hv.out, hV]; rfl
      clear hV hv
      replace hve := hid hve
      go_enter Tryd.func66, Tryd.ntmps66
      go_upto_region 4 with fail
      generalize hw_ : (w.alloc (.cells #[.int .i64 0, .int .i64 0, .string { data := #[] }] 23)).alloc (.cells #[.int .i64 3, .int .i64 0, .string { data := #[] }] 23) = w1
      have hx1 : Ext ((w.alloc (.cells #[.int .i64 0, .int .i64 0, .string { data := #[] }] 23)).alloc (.cells #[.int .i64 3, .int .i64 0, .string { data := #[] }] 23)) w1 := by rw [hw_]; exact Ext.refl _
      clear hw_
      have ht1 : Hid (There w1 w.heap.size 3) := There.ext (There.ext (There.new w #[.int .i64 0, .int .i64 0, .string { data := #[] }] 23 (by decide)) ((Ext.refl _).alloc_right _)) hx1
      have tv : Hid (There w1 (w.heap.size + 1) 3) := There.ext (There.newb (w.alloc (.cells #[.int .i64 0, .int .i64 0, .string { data := #[] }] 23)) #[.int .i64 3, .int .i64 0, .string { data := #[] }] 23 (n := 3) (b := w.heap.size + 1) (by simp) (by simp)) hx1
      have v0 : w1.cell? ⟨w.heap.size + 1, 0, none⟩ = some (.int .i64 3) := hx1.cell (by go_simp)
      have v1 : w1.cell? ⟨w.heap.size + 1, 1, none⟩ = some (.int .i64 0) := hx1.cell (by go_simp)
      have v2 : w1.cell? ⟨w.heap.size + 1, 2, none⟩ = some (.string { data := #[] }) := hx1.cell (by go_simp)
      have hE1 := hid (Ext.trans (((Ext.refl w).alloc_right _).alloc_right _) hx1)
      have lt2 : w.heap.size + 1 < w1.heap.size := World.block_lt_of_cell? w1 _ v0
      have lt1 : w.heap.size < w1.heap.size := by omega
      clear hx1
      have fv := tv.out.free (o := 1) (by omega)
      go_wp2_with fail
      refine (hc.out _).mono ?_
      rintro e w' ⟨rfl, rfl⟩
      go_upto_region 22 with fail
      generalize hw_ : w1.setCell ⟨w.heap.size + 1, 1, none⟩ (.int .i64 X) = w2
      have u0 : w2.cell? ⟨w.heap.size + 1, 0, none⟩ = some (.int .i64 3) := by rw [← hw_]; exact set_keep v0 (off_ne (by decide))
      have u1 : w2.cell? ⟨w.heap.size + 1, 1, none⟩ = some (.int .i64 X) := by rw [← hw_]; exact set_get v1
      have u2 : w2.cell? ⟨w.heap.size + 1, 2, none⟩ = some (.string { data := #[] }) := by rw [← hw_]; exact set_keep v2 (off_ne (by decide))
      have ht2 : Hid (There w2 w.heap.size 3) := by rw [← hw_]; exact ht1.out.set _ _
      have hE2 : Hid (Ext w w2) := by rw [← hw_]; exact hE1.out.set (by simp) _
      clear hw_ v0 v1 v2 lt2 lt1 tv fv ht1 hE1 hc
      have lt2 : w.heap.size + 1 < w2.heap.size := World.block_lt_of_cell? w2 _ u0
      have lt1 : w.heap.size < w2.heap.size := by omega
      go_wp2_with fail
      refine (Validate_any 3 X { data := #[] } w2).mono ?_
      rw [hve.out]
      rintro e w3 ⟨rfl, hx3⟩
      replace u0 := hx3.cell u0
      replace u1 := hx3.cell u1
      replace u2 := hx3.cell u2
      have ht := hid (ht2.out.ext hx3)
      have hEw := hid (hE2.out.trans hx3)
      clear hx3 ht2 hE2 lt2 lt1
      have lt2 : w.heap.size + 1 < w3.heap.size := World.block_lt_of_cell? w3 _ u0
      have lt1 : w.heap.size < w3.heap.size := by omega
      have p0 := ht.out.cell (o := 0) (by omega)
      have f0 := ht.out.free (o := 0) (by omega)
      have p1 := ht.out.cell (o := 1) (by omega)
      have f1 := ht.out.free (o := 1) (by omega)
      have p2 := ht.out.cell (o := 2) (by omega)
      have f2 := ht.out.free (o := 2) (by omega)
      have kk := hid (put3 ht.out (.int .i64 3) (.int .i64 X) (.string { data := #[] }))
      have Fin := hid (((hEw.out.set (p := ⟨w.heap.size, 0, none⟩) (Nat.le_refl _) (.int .i64 3)).set (p := ⟨w.heap.size, 1, none⟩) (Nat.le_refl _) (.int .i64 X)).set (p := ⟨w.heap.size, 2, none⟩) (Nat.le_refl _) (.string { data := #[] }))
      clear ht hEw
      go_wp2
      obtain ⟨k0, k1, k2⟩ := kk.out
      exact bodyPost_ret (v := .tuple #[.agg #[.int .i64 3, .int .i64 X, .string { data := #[] }], .int .i64 5]) (by simp [results, Tryd.results66, go_sem, k0, k1, k2]) rfl (GiveCut.some_ 3 X [] 5 Fin.out)
    · rw [if_neg (by rw [hV]; simp)]
      have hve : valE 3 X { data := #[] } = 1 := by rw [hv.out, hV]; rfl
      clear hV hv
      replace hve := hid hve
      go_enter Tryd.func66, Tryd.ntmps66
      go_upto_region 4 with fail
      generalize hw_ : (w.alloc (.cells #[.int .i64 0, .int .i64 0, .string { data := #[] }] 23)).alloc (.cells #[.int .i64 3, .int .i64 0, .string { data := #[] }] 23) = w1
      have hx1 : Ext ((w.alloc (.cells #[.int .i64 0, .int .i64 0, .string { data := #[] }] 23)).alloc (.cells #[.int .i64 3, .int .i64 0, .string { data := #[] }] 23)) w1 := by rw [hw_]; exact Ext.refl _
      clear hw_
      have ht1 : Hid (There w1 w.heap.size 3) := There.ext (There.ext (There.new w #[.int .i64 0, .int .i64 0, .string { data := #[] }] 23 (by decide)) ((Ext.refl _).alloc_right _)) hx1
      have tv : Hid (There w1 (w.heap.size + 1) 3) := There.ext (There.newb (w.alloc (.cells #[.int .i64 0, .int .i64 0, .string { data := #[] }] 23)) #[.int .i64 3, .int .i64 0, .string { data := #[] }] 23 (n := 3) (b := w.heap.size + 1) (by simp) (by simp)) hx1
      have v0 : w1.cell? ⟨w.heap.size + 1, 0, none⟩ = some (.int .i64 3) := hx1.cell (by go_simp)
      have v1 : w1.cell? ⟨w.heap.size + 1, 1, none⟩ = some (.int .i64 0) := hx1.cell (by go_simp)
      have v2 : w1.cell? ⟨w.heap.size + 1, 2, none⟩ = some (.string { data := #[] }) := hx1.cell (by go_simp)
      have hE1 := hid (Ext.trans (((Ext.refl w).alloc_right _).alloc_right _) hx1)
      have lt2 : w.heap.size + 1 < w1.heap.size := World.block_lt_of_cell? w1 _ v0
      have lt1 : w.heap.size < w1.heap.size := by omega
      clear hx1
      have fv := tv.out.free (o := 1) (by omega)
      go_wp2_with fail
      refine (hc.out _).mono ?_
      rintro e w' ⟨rfl, rfl⟩
      go_upto_region 22 with fail
      generalize hw_ : w1.setCell ⟨w.heap.size + 1, 1, none⟩ (.int .i64 X) = w2
      have u0 : w2.cell? ⟨w.heap.size + 1, 0, none⟩ = some (.int .i64 3) := by rw [← hw_]; exact set_keep v0 (off_ne (by decide))
      have u1 : w2.cell? ⟨w.heap.size + 1, 1, none⟩ = some (.int .i64 X) := by rw [← hw_]; exact set_get v1
      have u2 : w2.cell? ⟨w.heap.size + 1, 2, none⟩ = some (.string { data := #[] }) := by rw [← hw_]; exact set_keep v2 (off_ne (by decide))
      have ht2 : Hid (There w2 w.heap.size 3) := by rw [← hw_]; exact ht1.out.set _ _
      have hE2 : Hid (Ext w w2) := by rw [← hw_]; exact hE1.out.set (by simp) _
      clear hw_ v0 v1 v2 lt2 lt1 tv fv ht1 hE1 hc
      have lt2 : w.heap.size + 1 < w2.heap.size := World.block_lt_of_cell? w2 _ u0
      have lt1 : w.heap.size < w2.heap.size := by omega
      go_wp2_with fail
      refine (Validate_any 3 X { data := #[] } w2).mono ?_
      rw [hve.out]
      rintro e w3 ⟨rfl, hx3⟩
      replace u0 := hx3.cell u0
      replace u1 := hx3.cell u1
      replace u2 := hx3.cell u2
      have ht := hid (ht2.out.ext hx3)
      have hEw := hid (hE2.out.trans hx3)
      clear hx3 ht2 hE2 lt2 lt1
      have lt2 : w.heap.size + 1 < w3.heap.size := World.block_lt_of_cell? w3 _ u0
      have lt1 : w.heap.size < w3.heap.size := by omega
      have p0 := ht.out.cell (o := 0) (by omega)
      have f0 := ht.out.free (o := 0) (by omega)
      have p1 := ht.out.cell (o := 1) (by omega)
      have f1 := ht.out.free (o := 1) (by omega)
      have p2 := ht.out.cell (o := 2) (by omega)
      have f2 := ht.out.free (o := 2) (by omega)
      have kk := hid (put3 ht.out (.int .i64 3) (.int .i64 X) (.string { data := #[] }))
      have Fin := hid (((hEw.out.set (p := ⟨w.heap.size, 0, none⟩) (Nat.le_refl _) (.int .i64 3)).set (p := ⟨w.heap.size, 1, none⟩) (Nat.le_refl _) (.int .i64 X)).set (p := ⟨w.heap.size, 2, none⟩) (Nat.le_refl _) (.string { data := #[] }))
      clear ht hEw
      go_wp2
      obtain ⟨k0, k1, k2⟩ := kk.out
      exact bodyPost_ret (v := .tuple #[.agg #[.int .i64 3, .int .i64 X, .string { data := #[] }], .int .i64 0]) (by simp [results, Tryd.results66, go_sem, k0, k1, k2]) rfl (GiveCut.none_ Fin.out)
end Go.Proofs.YtlfanhlkoepodaaDoor
