/-
  The value of a key: the program and the reference. Equal values; the page of a number.
-/
import Derived.Test.YtlfanhlkoepodaaDoorK15
namespace Go.Proofs.YtlfanhlkoepodaaDoor
open Go.RowKit
set_option linter.unusedVariables false
set_option linter.unusedSimpArgs false
/-- A value, or that the key is broken. -/
def GiveVE (R : Option (Int × Int × List UInt8)) (w : World) (e : Ending) (w' : World) : Prop := match R with
  | none => e = .returned (.tuple #[vV 0 0 { data := #[] }, .int .i64 11]) ∧ Ext w w'
  | some v => e = .returned (.tuple #[vV v.1 v.2.1 (strB v.2.2), .int .i64 0]) ∧ Ext w w'
theorem GiveVE.none_ {w w' : World} (h : Ext w w') : GiveVE none w (.returned (.tuple #[.agg #[.int .i64 0, .int .i64 0, .string { data := #[] }], .int .i64 11])) w' := ⟨rfl, h⟩
theorem GiveVE.some_ {w w' : World} (k n : Int) (t : List UInt8) (h : Ext w w') : GiveVE (some (k, n, t)) w (.returned (.tuple #[.agg #[.int .i64 k, .int .i64 n, .string (strB t)], .int .i64 0])) w' := ⟨rfl, h⟩
theorem turnS_size (d : Bool) (s : ByteArray) : (turnS d s).size = s.size := by rw [← len_toList, turnS_list, turnD_len, len_toList]
set_option maxRecDepth 100000 in
set_option maxHeartbeats 4000000 in
theorem Decode_f (k : ByteArray) (hs : k.size ≤ 400000) (w : World) : Calls Tryd.prog 38 #[.string k, .bool false] w (GiveVE (decL (turnS false k).toList) w) := by
  have ht := hid (fun w => turner_any false w)
  have en := enterT1
  have hT := hid (fun w => turn1_any k w)
  rw [turnS_f]
  obtain ⟨K, hK⟩ : ∃ K, K = k := ⟨_, rfl⟩
  have hz : K.size = k.size := by rw [hK]
  rw [← hK]
  rw [← hK] at hT
  replace hK := hid hK
  have hc := hid (fun w => cut_any K (by omega) w)
  cases hcu : cutS K.toList with
  | none =>
    rw [decL_n hcu]
    rw [hcu] at hc
    clear hcu
    go_enter Tryd.func38, Tryd.ntmps38
    go_upto_region 1 with fail
    generalize hw_ : w.alloc (.cells #[.int .i64 0, .int .i64 0, .string { data := #[] }] 23) = w1
    have ht1 : Hid (There w1 w.heap.size 3) := by rw [← hw_]; exact There.new w _ _ (by decide)
    have hE1 : Hid (Ext w w1) := by rw [← hw_]; exact (Ext.refl w).alloc_right _
    have lt1 : w.heap.size < w1.heap.size := by rw [← hw_]; simp
    clear hw_
    go_wp2_with fail
    refine (ht.out _).mono ?_
    rintro e w' ⟨rfl, rfl⟩
    go_wp2_with fail
    refine (hT.out _).mono ?_
    rintro e w2 ⟨rfl, hx2⟩
    replace hx2 : Ext w1 w2 := by rw [← hx2]; exact Ext.refl _
    replace ht1 := hid (ht1.out.ext hx2)
    replace hE1 := hid (hE1.out.trans hx2)
    have lt2 : w.heap.size < w2.heap.size := by have := hx2.size; omega
    clear hx2 lt1
    go_wp2_with fail
    refine (hc.out w2).mono ?_
    rintro e w3 ⟨k', n', s', rfl, hx3⟩
    unfold vV
    have ht := hid ((ht1.out.ext hx3).ext ((Ext.refl _).alloc_right (.cells #[.int .i64 k', .int .i64 n', .string s'] 23)))
    have hEw := hid ((hE1.out.trans hx3).alloc_right (.cells #[.int .i64 k', .int .i64 n', .string s'] 23))
    clear hx3 ht1 hE1
    go_upto_region 3 with fail
    generalize w3.alloc (.cells #[.int .i64 k', .int .i64 n', .string s'] 23) = w4 at *
    have p0 := ht.out.cell (o := 0) (by omega)
    have f0 := ht.out.free (o := 0) (by omega)
    have p1 := ht.out.cell (o := 1) (by omega)
    have f1 := ht.out.free (o := 1) (by omega)
    have p2 := ht.out.cell (o := 2) (by omega)
    have f2 := ht.out.free (o := 2) (by omega)
    have kk := hid (put3 ht.out (.int .i64 0) (.int .i64 0) (.string { data := #[] }))
    have Fin := hid (((hEw.out.set (p := ⟨w.heap.size, 0, none⟩) (Nat.le_refl _) (.int .i64 0)).set (p := ⟨w.heap.size, 1, none⟩) (Nat.le_refl _) (.int .i64 0)).set (p := ⟨w.heap.size, 2, none⟩) (Nat.le_refl _) (.string { data := #[] }))
    clear ht hEw
    go_wp2
    obtain ⟨k0, k1, k2⟩ := kk.out
    exact bodyPost_ret (v := .tuple #[.agg #[.int .i64 0, .int .i64 0, .string { data := #[] }], .int .i64 11]) (by simp [results, Tryd.results38, go_sem, k0, k1, k2]) rfl (GiveVE.none_ Fin.out)
  | some x =>
    obtain ⟨⟨k', n', t⟩, q⟩ := x
    have hq := cutS_len hcu
    rw [len_toList] at hq
    have hqq := hq.1
    have hq0 : ((q : Int) == 0) = false := by simp; omega
    rw [hcu] at hc
    by_cases hqk : q = K.size
    · rw [decL_s hcu (by rw [len_toList]; exact hqk)]
      have dq : ((q : Int) != (K.size : Int)) = false := by simp; omega
      clear hcu hq hqk
      clear hz
      go_enter Tryd.func38, Tryd.ntmps38
      go_upto_region 1 with fail
      generalize hw_ : w.alloc (.cells #[.int .i64 0, .int .i64 0, .string { data := #[] }] 23) = w1
      have ht1 : Hid (There w1 w.heap.size 3) := by rw [← hw_]; exact There.new w _ _ (by decide)
      have hE1 : Hid (Ext w w1) := by rw [← hw_]; exact (Ext.refl w).alloc_right _
      have lt1 : w.heap.size < w1.heap.size := by rw [← hw_]; simp
      clear hw_
      go_wp2_with fail
      refine (ht.out _).mono ?_
      rintro e w' ⟨rfl, rfl⟩
      go_wp2_with fail
      refine (hT.out _).mono ?_
      rintro e w2 ⟨rfl, hx2⟩
      replace hx2 : Ext w1 w2 := by rw [← hx2]; exact Ext.refl _
      replace ht1 := hid (ht1.out.ext hx2)
      replace hE1 := hid (hE1.out.trans hx2)
      have lt2 : w.heap.size < w2.heap.size := by have := hx2.size; omega
      clear hx2 lt1
      go_wp2_with fail
      refine (hc.out w2).mono ?_
      rintro e w3 ⟨rfl, hx3⟩
      unfold vV
      have ht := hid ((ht1.out.ext hx3).ext ((Ext.refl _).alloc_right (.cells #[.int .i64 k', .int .i64 n', .string (strB t)] 23)))
      have hEw := hid ((hE1.out.trans hx3).alloc_right (.cells #[.int .i64 k', .int .i64 n', .string (strB t)] 23))
      have g3 := hx3.size
      clear hx3 ht1 hE1
      go_upto_region 3 with fail
      have u0 : (w3.alloc (.cells #[.int .i64 k', .int .i64 n', .string (strB t)] 23)).cell? ⟨w3.heap.size, 0, none⟩ = some (.int .i64 k') := by go_simp
      have u1 : (w3.alloc (.cells #[.int .i64 k', .int .i64 n', .string (strB t)] 23)).cell? ⟨w3.heap.size, 1, none⟩ = some (.int .i64 n') := by go_simp
      have u2 : (w3.alloc (.cells #[.int .i64 k', .int .i64 n', .string (strB t)] 23)).cell? ⟨w3.heap.size, 2, none⟩ = some (.string (strB t)) := by go_simp
      generalize w3.alloc (.cells #[.int .i64 k', .int .i64 n', .string (strB t)] 23) = w4 at *
      have lt4 : w3.heap.size < w4.heap.size := World.block_lt_of_cell? w4 _ u0
      have lt5 : w.heap.size < w4.heap.size := by omega
      have p0 := ht.out.cell (o := 0) (by omega)
      have f0 := ht.out.free (o := 0) (by omega)
      have p1 := ht.out.cell (o := 1) (by omega)
      have f1 := ht.out.free (o := 1) (by omega)
      have p2 := ht.out.cell (o := 2) (by omega)
      have f2 := ht.out.free (o := 2) (by omega)
      have kk := hid (put3 ht.out (.int .i64 k') (.int .i64 n') (.string (strB t)))
      have Fin := hid (((hEw.out.set (p := ⟨w.heap.size, 0, none⟩) (Nat.le_refl _) (.int .i64 k')).set (p := ⟨w.heap.size, 1, none⟩) (Nat.le_refl _) (.int .i64 n')).set (p := ⟨w.heap.size, 2, none⟩) (Nat.le_refl _) (.string (strB t)))
      clear ht hEw
      go_wp2
      obtain ⟨k0, k1, k2⟩ := kk.out
      exact bodyPost_ret (v := .tuple #[.agg #[.int .i64 k', .int .i64 n', .string (strB t)], .int .i64 0]) (by simp [results, Tryd.results38, go_sem, k0, k1, k2]) rfl (GiveVE.some_ k' n' t Fin.out)
    · rw [decL_x hcu (by rw [len_toList]; exact hqk)]
      have dq : ((q : Int) != (K.size : Int)) = true := by simp; omega
      clear hcu hq hqk hz
      go_enter Tryd.func38, Tryd.ntmps38
      go_upto_region 1 with fail
      generalize hw_ : w.alloc (.cells #[.int .i64 0, .int .i64 0, .string { data := #[] }] 23) = w1
      have ht1 : Hid (There w1 w.heap.size 3) := by rw [← hw_]; exact There.new w _ _ (by decide)
      have hE1 : Hid (Ext w w1) := by rw [← hw_]; exact (Ext.refl w).alloc_right _
      have lt1 : w.heap.size < w1.heap.size := by rw [← hw_]; simp
      clear hw_
      go_wp2_with fail
      refine (ht.out _).mono ?_
      rintro e w' ⟨rfl, rfl⟩
      go_wp2_with fail
      refine (hT.out _).mono ?_
      rintro e w2 ⟨rfl, hx2⟩
      replace hx2 : Ext w1 w2 := by rw [← hx2]; exact Ext.refl _
      replace ht1 := hid (ht1.out.ext hx2)
      replace hE1 := hid (hE1.out.trans hx2)
      have lt2 : w.heap.size < w2.heap.size := by have := hx2.size; omega
      clear hx2 lt1
      go_wp2_with fail
      refine (hc.out w2).mono ?_
      rintro e w3 ⟨rfl, hx3⟩
      unfold vV
      have ht := hid ((ht1.out.ext hx3).ext ((Ext.refl _).alloc_right (.cells #[.int .i64 k', .int .i64 n', .string (strB t)] 23)))
      have hEw := hid ((hE1.out.trans hx3).alloc_right (.cells #[.int .i64 k', .int .i64 n', .string (strB t)] 23))
      have g3 := hx3.size
      clear hx3 ht1 hE1
      go_upto_region 3 with fail
      have u0 : (w3.alloc (.cells #[.int .i64 k', .int .i64 n', .string (strB t)] 23)).cell? ⟨w3.heap.size, 0, none⟩ = some (.int .i64 k') := by go_simp
      have u1 : (w3.alloc (.cells #[.int .i64 k', .int .i64 n', .string (strB t)] 23)).cell? ⟨w3.heap.size, 1, none⟩ = some (.int .i64 n') := by go_simp
      have u2 : (w3.alloc (.cells #[.int .i64 k', .int .i64 n', .string (strB t)] 23)).cell? ⟨w3.heap.size, 2, none⟩ = some (.string (strB t)) := by go_simp
      generalize w3.alloc (.cells #[.int .i64 k', .int .i64 n', .string (strB t)] 23) = w4 at *
      have lt4 : w3.heap.size < w4.heap.size := World.block_lt_of_cell? w4 _ u0
      have lt5 : w.heap.size < w4.heap.size := by omega
      have p0 := ht.out.cell (o := 0) (by omega)
      have f0 := ht.out.free (o := 0) (by omega)
      have p1 := ht.out.cell (o := 1) (by omega)
      have f1 := ht.out.free (o := 1) (by omega)
      have p2 := ht.out.cell (o := 2) (by omega)
      have f2 := ht.out.free (o := 2) (by omega)
      have kk := hid (put3 ht.out (.int .i64 0) (.int .i64 0) (.string { data := #[] }))
      have Fin := hid (((hEw.out.set (p := ⟨w.heap.size, 0, none⟩) (Nat.le_refl _) (.int .i64 0)).set (p := ⟨w.heap.size, 1, none⟩) (Nat.le_refl _) (.int .i64 0)).set (p := ⟨w.heap.size, 2, none⟩) (Nat.le_refl _) (.string { data := #[] }))
      clear ht hEw
      go_wp2
      obtain ⟨k0, k1, k2⟩ := kk.out
      exact bodyPost_ret (v := .tuple #[.agg #[.int .i64 0, .int .i64 0, .string { data := #[] }], .int .i64 11]) (by simp [results, Tryd.results38, go_sem, k0, k1, k2]) rfl (GiveVE.none_ Fin.out)
set_option maxRecDepth 100000 in
set_option maxHeartbeats 4000000 in
theorem Decode_t (k : ByteArray) (hs : k.size ≤ 400000) (w : World) : Calls Tryd.prog 38 #[.string k, .bool true] w (GiveVE (decL (turnS true k).toList) w) := by
  have ht := hid (fun w => turner_any true w)
  have en := enterT2
  have hT := hid (fun w => turn2_any k (by omega) w)
  rw [← turnS_t] at hT
  have hz := turnS_size true k
  generalize turnS true k = K at *
  have hc := hid (fun w => cut_any K (by omega) w)
  cases hcu : cutS K.toList with
  | none =>
    rw [decL_n hcu]
    rw [hcu] at hc
    clear hcu
    go_enter Tryd.func38, Tryd.ntmps38
    go_upto_region 1 with fail
    generalize hw_ : w.alloc (.cells #[.int .i64 0, .int .i64 0, .string { data := #[] }] 23) = w1
    have ht1 : Hid (There w1 w.heap.size 3) := by rw [← hw_]; exact There.new w _ _ (by decide)
    have hE1 : Hid (Ext w w1) := by rw [← hw_]; exact (Ext.refl w).alloc_right _
    have lt1 : w.heap.size < w1.heap.size := by rw [← hw_]; simp
    clear hw_
    go_wp2_with fail
    refine (ht.out _).mono ?_
    rintro e w' ⟨rfl, rfl⟩
    go_wp2_with fail
    refine (hT.out _).mono ?_
    rintro e w2 ⟨rfl, hx2⟩
    replace ht1 := hid (ht1.out.ext hx2)
    replace hE1 := hid (hE1.out.trans hx2)
    have lt2 : w.heap.size < w2.heap.size := by have := hx2.size; omega
    clear hx2 lt1
    go_wp2_with fail
    refine (hc.out w2).mono ?_
    rintro e w3 ⟨k', n', s', rfl, hx3⟩
    unfold vV
    have ht := hid ((ht1.out.ext hx3).ext ((Ext.refl _).alloc_right (.cells #[.int .i64 k', .int .i64 n', .string s'] 23)))
    have hEw := hid ((hE1.out.trans hx3).alloc_right (.cells #[.int .i64 k', .int .i64 n', .string s'] 23))
    clear hx3 ht1 hE1
    go_upto_region 3 with fail
    generalize w3.alloc (.cells #[.int .i64 k', .int .i64 n', .string s'] 23) = w4 at *
    have p0 := ht.out.cell (o := 0) (by omega)
    have f0 := ht.out.free (o := 0) (by omega)
    have p1 := ht.out.cell (o := 1) (by omega)
    have f1 := ht.out.free (o := 1) (by omega)
    have p2 := ht.out.cell (o := 2) (by omega)
    have f2 := ht.out.free (o := 2) (by omega)
    have kk := hid (put3 ht.out (.int .i64 0) (.int .i64 0) (.string { data := #[] }))
    have Fin := hid (((hEw.out.set (p := ⟨w.heap.size, 0, none⟩) (Nat.le_refl _) (.int .i64 0)).set (p := ⟨w.heap.size, 1, none⟩) (Nat.le_refl _) (.int .i64 0)).set (p := ⟨w.heap.size, 2, none⟩) (Nat.le_refl _) (.string { data := #[] }))
    clear ht hEw
    go_wp2
    obtain ⟨k0, k1, k2⟩ := kk.out
    exact bodyPost_ret (v := .tuple #[.agg #[.int .i64 0, .int .i64 0, .string { data := #[] }], .int .i64 11]) (by simp [results, Tryd.results38, go_sem, k0, k1, k2]) rfl (GiveVE.none_ Fin.out)
  | some x =>
    obtain ⟨⟨k', n', t⟩, q⟩ := x
    have hq := cutS_len hcu
    rw [len_toList] at hq
    have hqq := hq.1
    have hq0 : ((q : Int) == 0) = false := by simp; omega
    rw [hcu] at hc
    by_cases hqk : q = K.size
    · rw [decL_s hcu (by rw [len_toList]; exact hqk)]
      have dq : ((q : Int) != (K.size : Int)) = false := by simp; omega
      clear hcu hq hqk
      clear hz
      go_enter Tryd.func38, Tryd.ntmps38
      go_upto_region 1 with fail
      generalize hw_ : w.alloc (.cells #[.int .i64 0, .int .i64 0, .string { data := #[] }] 23) = w1
      have ht1 : Hid (There w1 w.heap.size 3) := by rw [← hw_]; exact There.new w _ _ (by decide)
      have hE1 : Hid (Ext w w1) := by rw [← hw_]; exact (Ext.refl w).alloc_right _
      have lt1 : w.heap.size < w1.heap.size := by rw [← hw_]; simp
      clear hw_
      go_wp2_with fail
      refine (ht.out _).mono ?_
      rintro e w' ⟨rfl, rfl⟩
      go_wp2_with fail
      refine (hT.out _).mono ?_
      rintro e w2 ⟨rfl, hx2⟩
      replace ht1 := hid (ht1.out.ext hx2)
      replace hE1 := hid (hE1.out.trans hx2)
      have lt2 : w.heap.size < w2.heap.size := by have := hx2.size; omega
      clear hx2 lt1
      go_wp2_with fail
      refine (hc.out w2).mono ?_
      rintro e w3 ⟨rfl, hx3⟩
      unfold vV
      have ht := hid ((ht1.out.ext hx3).ext ((Ext.refl _).alloc_right (.cells #[.int .i64 k', .int .i64 n', .string (strB t)] 23)))
      have hEw := hid ((hE1.out.trans hx3).alloc_right (.cells #[.int .i64 k', .int .i64 n', .string (strB t)] 23))
      have g3 := hx3.size
      clear hx3 ht1 hE1
      go_upto_region 3 with fail
      have u0 : (w3.alloc (.cells #[.int .i64 k', .int .i64 n', .string (strB t)] 23)).cell? ⟨w3.heap.size, 0, none⟩ = some (.int .i64 k') := by go_simp
      have u1 : (w3.alloc (.cells #[.int .i64 k', .int .i64 n', .string (strB t)] 23)).cell? ⟨w3.heap.size, 1, none⟩ = some (.int .i64 n') := by go_simp
      have u2 : (w3.alloc (.cells #[.int .i64 k', .int .i64 n', .string (strB t)] 23)).cell? ⟨w3.heap.size, 2, none⟩ = some (.string (strB t)) := by go_simp
      generalize w3.alloc (.cells #[.int .i64 k', .int .i64 n', .string (strB t)] 23) = w4 at *
      have lt4 : w3.heap.size < w4.heap.size := World.block_lt_of_cell? w4 _ u0
      have lt5 : w.heap.size < w4.heap.size := by omega
      have p0 := ht.out.cell (o := 0) (by omega)
      have f0 := ht.out.free (o := 0) (by omega)
      have p1 := ht.out.cell (o := 1) (by omega)
      have f1 := ht.out.free (o := 1) (by omega)
      have p2 := ht.out.cell (o := 2) (by omega)
      have f2 := ht.out.free (o := 2) (by omega)
      have kk := hid (put3 ht.out (.int .i64 k') (.int .i64 n') (.string (strB t)))
      have Fin := hid (((hEw.out.set (p := ⟨w.heap.size, 0, none⟩) (Nat.le_refl _) (.int .i64 k')).set (p := ⟨w.heap.size, 1, none⟩) (Nat.le_refl _) (.int .i64 n')).set (p := ⟨w.heap.size, 2, none⟩) (Nat.le_refl _) (.string (strB t)))
      clear ht hEw
      go_wp2
      obtain ⟨k0, k1, k2⟩ := kk.out
      exact bodyPost_ret (v := .tuple #[.agg #[.int .i64 k', .int .i64 n', .string (strB t)], .int .i64 0]) (by simp [results, Tryd.results38, go_sem, k0, k1, k2]) rfl (GiveVE.some_ k' n' t Fin.out)
    · rw [decL_x hcu (by rw [len_toList]; exact hqk)]
      have dq : ((q : Int) != (K.size : Int)) = true := by simp; omega
      clear hcu hq hqk hz
      go_enter Tryd.func38, Tryd.ntmps38
      go_upto_region 1 with fail
      generalize hw_ : w.alloc (.cells #[.int .i64 0, .int .i64 0, .string { data := #[] }] 23) = w1
      have ht1 : Hid (There w1 w.heap.size 3) := by rw [← hw_]; exact There.new w _ _ (by decide)
      have hE1 : Hid (Ext w w1) := by rw [← hw_]; exact (Ext.refl w).alloc_right _
      have lt1 : w.heap.size < w1.heap.size := by rw [← hw_]; simp
      clear hw_
      go_wp2_with fail
      refine (ht.out _).mono ?_
      rintro e w' ⟨rfl, rfl⟩
      go_wp2_with fail
      refine (hT.out _).mono ?_
      rintro e w2 ⟨rfl, hx2⟩
      replace ht1 := hid (ht1.out.ext hx2)
      replace hE1 := hid (hE1.out.trans hx2)
      have lt2 : w.heap.size < w2.heap.size := by have := hx2.size; omega
      clear hx2 lt1
      go_wp2_with fail
      refine (hc.out w2).mono ?_
      rintro e w3 ⟨rfl, hx3⟩
      unfold vV
      have ht := hid ((ht1.out.ext hx3).ext ((Ext.refl _).alloc_right (.cells #[.int .i64 k', .int .i64 n', .string (strB t)] 23)))
      have hEw := hid ((hE1.out.trans hx3).alloc_right (.cells #[.int .i64 k', .int .i64 n', .string (strB t)] 23))
      have g3 := hx3.size
      clear hx3 ht1 hE1
      go_upto_region 3 with fail
      have u0 : (w3.alloc (.cells #[.int .i64 k', .int .i64 n', .string (strB t)] 23)).cell? ⟨w3.heap.size, 0, none⟩ = some (.int .i64 k') := by go_simp
      have u1 : (w3.alloc (.cells #[.int .i64 k', .int .i64 n', .string (strB t)] 23)).cell? ⟨w3.heap.size, 1, none⟩ = some (.int .i64 n') := by go_simp
      have u2 : (w3.alloc (.cells #[.int .i64 k', .int .i64 n', .string (strB t)] 23)).cell? ⟨w3.heap.size, 2, none⟩ = some (.string (strB t)) := by go_simp
      generalize w3.alloc (.cells #[.int .i64 k', .int .i64 n', .string (strB t)] 23) = w4 at *
      have lt4 : w3.heap.size < w4.heap.size := World.block_lt_of_cell? w4 _ u0
      have lt5 : w.heap.size < w4.heap.size := by omega
      have p0 := ht.out.cell (o := 0) (by omega)
      have f0 := ht.out.free (o := 0) (by omega)
      have p1 := ht.out.cell (o := 1) (by omega)
      have f1 := ht.out.free (o := 1) (by omega)
      have p2 := ht.out.cell (o := 2) (by omega)
      have f2 := ht.out.free (o := 2) (by omega)
      have kk := hid (put3 ht.out (.int .i64 0) (.int .i64 0) (.string { data := #[] }))
      have Fin := hid (((hEw.out.set (p := ⟨w.heap.size, 0, none⟩) (Nat.le_refl _) (.int .i64 0)).set (p := ⟨w.heap.size, 1, none⟩) (Nat.le_refl _) (.int .i64 0)).set (p := ⟨w.heap.size, 2, none⟩) (Nat.le_refl _) (.string { data := #[] }))
      clear ht hEw
      go_wp2
      obtain ⟨k0, k1, k2⟩ := kk.out
      exact bodyPost_ret (v := .tuple #[.agg #[.int .i64 0, .int .i64 0, .string { data := #[] }], .int .i64 11]) (by simp [results, Tryd.results38, go_sem, k0, k1, k2]) rfl (GiveVE.none_ Fin.out)
theorem Decode_any (k : ByteArray) (d : Bool) (hs : k.size ≤ 400000) (w : World) : Calls Tryd.prog 38 #[.string k, .bool d] w (GiveVE (decL (turnS d k).toList) w) := by
  cases d
  · exact Decode_f k hs w
  · exact Decode_t k hs w
set_option maxRecDepth 100000 in
set_option maxHeartbeats 4000000 in
theorem rDecode_any (k : ByteArray) (d : Bool) (hs : k.size ≤ 400000) (w : World) : Calls Tryd.prog 39 #[.string k, .bool d] w (GiveVE (decL (turnS d k).toList) w) := by
  have hT := hid (fun w => rturned_any k d (by omega) w)
  have hz := turnS_size d k
  generalize turnS d k = K at *
  have hc := hid (fun w => one_any K (by omega) w)
  cases hcu : cutS K.toList with
  | none =>
    rw [decL_n hcu]
    rw [hcu] at hc
    clear hcu
    go_enter Tryd.func39, Tryd.ntmps39
    go_upto_region 1 with fail
    generalize hw_ : w.alloc (.cells #[.int .i64 0, .int .i64 0, .string { data := #[] }] 23) = w1
    have ht1 : Hid (There w1 w.heap.size 3) := by rw [← hw_]; exact There.new w _ _ (by decide)
    have hE1 : Hid (Ext w w1) := by rw [← hw_]; exact (Ext.refl w).alloc_right _
    have lt1 : w.heap.size < w1.heap.size := by rw [← hw_]; simp
    clear hw_
    go_wp2_with fail
    refine (hT.out _).mono ?_
    rintro e w2 ⟨rfl, hx2⟩
    replace ht1 := hid (ht1.out.ext hx2)
    replace hE1 := hid (hE1.out.trans hx2)
    have lt2 : w.heap.size < w2.heap.size := by have := hx2.size; omega
    clear hx2 lt1
    go_wp2_with fail
    refine (hc.out w2).mono ?_
    rintro e w3 ⟨k', n', s', rfl, hx3⟩
    unfold vV
    have ht := hid ((ht1.out.ext hx3).ext ((Ext.refl _).alloc_right (.cells #[.int .i64 k', .int .i64 n', .string s'] 23)))
    have hEw := hid ((hE1.out.trans hx3).alloc_right (.cells #[.int .i64 k', .int .i64 n', .string s'] 23))
    clear hx3 ht1 hE1
    go_upto_region 2 with fail
    generalize w3.alloc (.cells #[.int .i64 k', .int .i64 n', .string s'] 23) = w4 at *
    have p0 := ht.out.cell (o := 0) (by omega)
    have f0 := ht.out.free (o := 0) (by omega)
    have p1 := ht.out.cell (o := 1) (by omega)
    have f1 := ht.out.free (o := 1) (by omega)
    have p2 := ht.out.cell (o := 2) (by omega)
    have f2 := ht.out.free (o := 2) (by omega)
    have kk := hid (put3 ht.out (.int .i64 0) (.int .i64 0) (.string { data := #[] }))
    have Fin := hid (((hEw.out.set (p := ⟨w.heap.size, 0, none⟩) (Nat.le_refl _) (.int .i64 0)).set (p := ⟨w.heap.size, 1, none⟩) (Nat.le_refl _) (.int .i64 0)).set (p := ⟨w.heap.size, 2, none⟩) (Nat.le_refl _) (.string { data := #[] }))
    clear ht hEw
    go_wp2
    obtain ⟨k0, k1, k2⟩ := kk.out
    exact bodyPost_ret (v := .tuple #[.agg #[.int .i64 0, .int .i64 0, .string { data := #[] }], .int .i64 11]) (by simp [results, Tryd.results39, go_sem, k0, k1, k2]) rfl (GiveVE.none_ Fin.out)
  | some x =>
    obtain ⟨⟨k', n', t⟩, q⟩ := x
    have hq := cutS_len hcu
    rw [len_toList] at hq
    have hqq := hq.1
    have hq0 : ((q : Int) == 0) = false := by simp; omega
    rw [hcu] at hc
    by_cases hqk : q = K.size
    · rw [decL_s hcu (by rw [len_toList]; exact hqk)]
      have dq : ((q : Int) != (k.size : Int)) = false := by simp; omega
      clear hcu hq hqk
      clear hz
      go_enter Tryd.func39, Tryd.ntmps39
      go_upto_region 1 with fail
      generalize hw_ : w.alloc (.cells #[.int .i64 0, .int .i64 0, .string { data := #[] }] 23) = w1
      have ht1 : Hid (There w1 w.heap.size 3) := by rw [← hw_]; exact There.new w _ _ (by decide)
      have hE1 : Hid (Ext w w1) := by rw [← hw_]; exact (Ext.refl w).alloc_right _
      have lt1 : w.heap.size < w1.heap.size := by rw [← hw_]; simp
      clear hw_
      go_wp2_with fail
      refine (hT.out _).mono ?_
      rintro e w2 ⟨rfl, hx2⟩
      replace ht1 := hid (ht1.out.ext hx2)
      replace hE1 := hid (hE1.out.trans hx2)
      have lt2 : w.heap.size < w2.heap.size := by have := hx2.size; omega
      clear hx2 lt1
      go_wp2_with fail
      refine (hc.out w2).mono ?_
      rintro e w3 ⟨rfl, hx3⟩
      unfold vV
      have ht := hid ((ht1.out.ext hx3).ext ((Ext.refl _).alloc_right (.cells #[.int .i64 k', .int .i64 n', .string (strB t)] 23)))
      have hEw := hid ((hE1.out.trans hx3).alloc_right (.cells #[.int .i64 k', .int .i64 n', .string (strB t)] 23))
      have g3 := hx3.size
      clear hx3 ht1 hE1
      go_upto_region 2 with fail
      have u0 : (w3.alloc (.cells #[.int .i64 k', .int .i64 n', .string (strB t)] 23)).cell? ⟨w3.heap.size, 0, none⟩ = some (.int .i64 k') := by go_simp
      have u1 : (w3.alloc (.cells #[.int .i64 k', .int .i64 n', .string (strB t)] 23)).cell? ⟨w3.heap.size, 1, none⟩ = some (.int .i64 n') := by go_simp
      have u2 : (w3.alloc (.cells #[.int .i64 k', .int .i64 n', .string (strB t)] 23)).cell? ⟨w3.heap.size, 2, none⟩ = some (.string (strB t)) := by go_simp
      generalize w3.alloc (.cells #[.int .i64 k', .int .i64 n', .string (strB t)] 23) = w4 at *
      have lt4 : w3.heap.size < w4.heap.size := World.block_lt_of_cell? w4 _ u0
      have lt5 : w.heap.size < w4.heap.size := by omega
      have p0 := ht.out.cell (o := 0) (by omega)
      have f0 := ht.out.free (o := 0) (by omega)
      have p1 := ht.out.cell (o := 1) (by omega)
      have f1 := ht.out.free (o := 1) (by omega)
      have p2 := ht.out.cell (o := 2) (by omega)
      have f2 := ht.out.free (o := 2) (by omega)
      have kk := hid (put3 ht.out (.int .i64 k') (.int .i64 n') (.string (strB t)))
      have Fin := hid (((hEw.out.set (p := ⟨w.heap.size, 0, none⟩) (Nat.le_refl _) (.int .i64 k')).set (p := ⟨w.heap.size, 1, none⟩) (Nat.le_refl _) (.int .i64 n')).set (p := ⟨w.heap.size, 2, none⟩) (Nat.le_refl _) (.string (strB t)))
      clear ht hEw
      go_wp2
      obtain ⟨k0, k1, k2⟩ := kk.out
      exact bodyPost_ret (v := .tuple #[.agg #[.int .i64 k', .int .i64 n', .string (strB t)], .int .i64 0]) (by simp [results, Tryd.results39, go_sem, k0, k1, k2]) rfl (GiveVE.some_ k' n' t Fin.out)
    · rw [decL_x hcu (by rw [len_toList]; exact hqk)]
      have dq : ((q : Int) != (k.size : Int)) = true := by simp; omega
      clear hcu hq hqk hz
      go_enter Tryd.func39, Tryd.ntmps39
      go_upto_region 1 with fail
      generalize hw_ : w.alloc (.cells #[.int .i64 0, .int .i64 0, .string { data := #[] }] 23) = w1
      have ht1 : Hid (There w1 w.heap.size 3) := by rw [← hw_]; exact There.new w _ _ (by decide)
      have hE1 : Hid (Ext w w1) := by rw [← hw_]; exact (Ext.refl w).alloc_right _
      have lt1 : w.heap.size < w1.heap.size := by rw [← hw_]; simp
      clear hw_
      go_wp2_with fail
      refine (hT.out _).mono ?_
      rintro e w2 ⟨rfl, hx2⟩
      replace ht1 := hid (ht1.out.ext hx2)
      replace hE1 := hid (hE1.out.trans hx2)
      have lt2 : w.heap.size < w2.heap.size := by have := hx2.size; omega
      clear hx2 lt1
      go_wp2_with fail
      refine (hc.out w2).mono ?_
      rintro e w3 ⟨rfl, hx3⟩
      unfold vV
      have ht := hid ((ht1.out.ext hx3).ext ((Ext.refl _).alloc_right (.cells #[.int .i64 k', .int .i64 n', .string (strB t)] 23)))
      have hEw := hid ((hE1.out.trans hx3).alloc_right (.cells #[.int .i64 k', .int .i64 n', .string (strB t)] 23))
      have g3 := hx3.size
      clear hx3 ht1 hE1
      go_upto_region 2 with fail
      have u0 : (w3.alloc (.cells #[.int .i64 k', .int .i64 n', .string (strB t)] 23)).cell? ⟨w3.heap.size, 0, none⟩ = some (.int .i64 k') := by go_simp
      have u1 : (w3.alloc (.cells #[.int .i64 k', .int .i64 n', .string (strB t)] 23)).cell? ⟨w3.heap.size, 1, none⟩ = some (.int .i64 n') := by go_simp
      have u2 : (w3.alloc (.cells #[.int .i64 k', .int .i64 n', .string (strB t)] 23)).cell? ⟨w3.heap.size, 2, none⟩ = some (.string (strB t)) := by go_simp
      generalize w3.alloc (.cells #[.int .i64 k', .int .i64 n', .string (strB t)] 23) = w4 at *
      have lt4 : w3.heap.size < w4.heap.size := World.block_lt_of_cell? w4 _ u0
      have lt5 : w.heap.size < w4.heap.size := by omega
      have p0 := ht.out.cell (o := 0) (by omega)
      have f0 := ht.out.free (o := 0) (by omega)
      have p1 := ht.out.cell (o := 1) (by omega)
      have f1 := ht.out.free (o := 1) (by omega)
      have p2 := ht.out.cell (o := 2) (by omega)
      have f2 := ht.out.free (o := 2) (by omega)
      have kk := hid (put3 ht.out (.int .i64 0) (.int .i64 0) (.string { data := #[] }))
      have Fin := hid (((hEw.out.set (p := ⟨w.heap.size, 0, none⟩) (Nat.le_refl _) (.int .i64 0)).set (p := ⟨w.heap.size, 1, none⟩) (Nat.le_refl _) (.int .i64 0)).set (p := ⟨w.heap.size, 2, none⟩) (Nat.le_refl _) (.string { data := #[] }))
      clear ht hEw
      go_wp2
      obtain ⟨k0, k1, k2⟩ := kk.out
      exact bodyPost_ret (v := .tuple #[.agg #[.int .i64 0, .int .i64 0, .string { data := #[] }], .int .i64 11]) (by simp [results, Tryd.results39, go_sem, k0, k1, k2]) rfl (GiveVE.none_ Fin.out)
set_option maxRecDepth 100000 in
set_option maxHeartbeats 4000000 in
theorem SameV_any (k n : Int) (s : ByteArray) (w : World) : Calls Tryd.prog 40 #[vV k n s, vV k n s] w (Give (.bool true) w) := by
  unfold vV
  go_enter Tryd.func40, Tryd.ntmps40
  go_wp2
  go_ret
  exact ⟨by simp, ((Ext.refl w).alloc_right _).alloc_right _⟩
end Go.Proofs.YtlfanhlkoepodaaDoor
