/-
  The key of a value: the program and the reference.
-/
import Derived.Test.YtlfanhlkoepodaaDoorK2
import Derived.Test.YtlfanhlkoepodaaDoorKR
import Derived.Deep.DeepCutAuto
import Derived.Deep.DrawnRows
import Derived.Laws.EntriesVeiled
import Derived.Deep.RegionHeld3
namespace Go.Proofs.YtlfanhlkoepodaaDoor
open Go.RowKit
set_option linter.unusedVariables false
set_option linter.unusedSimpArgs false
attribute [local go_sem] Pg.conv_new
def keyB (k n : Int) (s : ByteArray) (p c : Int) : ByteArray := strB (keyL k n (wt s p c))
theorem keyB_size (k n : Int) (s : ByteArray) (p c : Int) : (keyB k n s p c).size ≤ 99 := by unfold keyB; rw [strB_size]; exact keyL_len _ _ _ (wt_len _ _ _)
theorem strB_cons (b : UInt8) (l : List UInt8) : strB [b] ++ strB l = strB (b :: l) := by rw [strB_add]; rfl
theorem bOf_k (k : Int) : Pg.bOf k = byo k.toNat := rfl
theorem keyB_0 (n : Int) (s : ByteArray) (p c : Int) : keyB 0 n s p c = strB [byo 0] := rfl
theorem keyB_1 (n : Int) (s : ByteArray) (p c : Int) : keyB 1 n s p c = strB [byo 1] ++ strB (highL n.toNat 1) := by rw [strB_cons]; rfl
theorem keyB_2 (n : Int) (s : ByteArray) (p c : Int) : keyB 2 n s p c = strB [byo 2] ++ strB (highL (n + 1000000000000000).toNat 8) := by rw [strB_cons]; rfl
theorem keyB_3 (n : Int) (s : ByteArray) (p c : Int) : keyB 3 n s p c = strB [byo 3] ++ strB (highL n.toNat 4) := by rw [strB_cons]; rfl
theorem keyB_4 (n : Int) (s : ByteArray) (p c : Int) : keyB 4 n s p c = strB [byo 4] ++ (strB (escL (wt s p c)) ++ ⟨#[0, 0]⟩) := by
  rw [show (⟨#[0, 0]⟩ : ByteArray) = strB [0, 0] from rfl, strB_add, strB_cons]
  rfl
theorem high_size (n k : Nat) : (strB (highL n k)).size = k := by rw [strB_size, highL_len]
theorem esc_size (s : ByteArray) (p c : Int) : (strB (escL (wt s p c))).size ≤ 96 := by rw [strB_size]; have := escL_len (wt s p c); have := wt_len s p c; omega
set_option maxRecDepth 100000 in
set_option maxHeartbeats 4000000 in
theorem plain_any (k n : Int) (s : ByteArray) (p c : Int) (he : valE k n s = 0) (h : Co p c) (w : World) (hm : ML w) : Calls Tryd.prog 57 #[vV k n s, .int .i64 p, .int .i64 c] w (Give (.string (keyB k n s p c)) w) := by
  have hk := val_kinds he
  have hz := val_size he
  clear he
  unfold vV at *
  rcases hk with rfl | ⟨rfl, hn⟩ | ⟨rfl, hn⟩ | ⟨rfl, hn⟩ | rfl
  · have hf := hid (keyB_0 n s p c)
    generalize keyB 0 n s p c = K at *
    have hc1 : Hid (∀ w : World, (convert 49 9 (.slice (some ⟨w.heap.size, 0, none⟩) 1 1)).run Tryd.prog (w.alloc (.cells #[.int .u8 0] 5)) = .ok (.string (strB [byo 0])) (w.alloc (.cells #[.int .u8 0] 5))) := fun w => Pg.conv_one w 0 (by omega) (by omega)
    rw [← hf.out] at hc1
    go_enter Tryd.func57, Tryd.ntmps57
    go_upto_region 1 with fail
    generalize hw_ : w.alloc (.cells #[.int .i64 0, .int .i64 n, .string s] 23) = w1
    have hx1 : Ext (w.alloc (.cells #[.int .i64 0, .int .i64 n, .string s] 23)) w1 := by rw [hw_]; exact Ext.refl _
    clear hw_
    have b0 : w1.cell? ⟨w.heap.size, 0, none⟩ = some (.int .i64 0) := hx1.cell (by go_simp)
    have b1 : w1.cell? ⟨w.heap.size, 1, none⟩ = some (.int .i64 n) := hx1.cell (by go_simp)
    have b2 : w1.cell? ⟨w.heap.size, 2, none⟩ = some (.string s) := hx1.cell (by go_simp)
    have hE := hid (Ext.trans ((Ext.refl w).alloc_right _) hx1)
    have lt := World.block_lt_of_cell? w1 _ b0
    clear hx1
    have hcv := hc1.out w1
    have hEa := hid (hE.out.alloc_right (.cells #[.int .u8 0] 5))
    have eu : IntKind.u8.wrap 0 = 0 := Pg.u8_in 0 (by omega) (by omega)
    go_wp2
    go_ret
    exact ⟨rfl, hEa.out⟩
  · have h0 : 0 ≤ n ∧ n ≤ 1 := by omega
    have hf := hid (keyB_1 n s p c)
    generalize keyB 1 n s p c = K at *
    obtain ⟨m, hm9⟩ : ∃ m : Nat, m = n.toNat := ⟨_, rfl⟩
    have hh : Hid (∀ w, Calls Tryd.prog 82 #[.int .i64 m, .int .i64 1] w (Give (.string (strB (highL m 1))) w)) := fun w => high_any m 1 (by omega) (by omega) (by omega) w
    rw [← hm9] at hf
    obtain rfl : n = (m : Int) := by omega
    clear hm9 h0 hn
    have ad := str_add (strB [byo 1]) (strB (highL m 1)) (by rw [strB_size, high_size]; simp)
    replace hf : Hid (strB [byo 1] ++ strB (highL m 1) = K) := hf.out.symm
    rw [hf.out] at ad
    generalize strB (highL m 1) = Y at *
    have hc1 : Hid (∀ w : World, (convert 49 9 (.slice (some ⟨w.heap.size, 0, none⟩) 1 1)).run Tryd.prog (w.alloc (.cells #[.int .u8 1] 5)) = .ok (.string (strB [byo 1])) (w.alloc (.cells #[.int .u8 1] 5))) := fun w => Pg.conv_one w 1 (by omega) (by omega)
    generalize strB [byo 1] = Z at *
    go_enter Tryd.func57, Tryd.ntmps57
    go_upto_region 1 with fail
    generalize hw_ : w.alloc (.cells #[.int .i64 1, .int .i64 (m : Int), .string s] 23) = w1
    have hx1 : Ext (w.alloc (.cells #[.int .i64 1, .int .i64 (m : Int), .string s] 23)) w1 := by rw [hw_]; exact Ext.refl _
    clear hw_
    have b0 : w1.cell? ⟨w.heap.size, 0, none⟩ = some (.int .i64 1) := hx1.cell (by go_simp)
    have b1 : w1.cell? ⟨w.heap.size, 1, none⟩ = some (.int .i64 (m : Int)) := hx1.cell (by go_simp)
    have b2 : w1.cell? ⟨w.heap.size, 2, none⟩ = some (.string s) := hx1.cell (by go_simp)
    have hE := hid (Ext.trans ((Ext.refl w).alloc_right _) hx1)
    have lt := World.block_lt_of_cell? w1 _ b0
    clear hx1
    have hcv := hc1.out w1
    have hEa := hid (hE.out.alloc_right (.cells #[.int .u8 1] 5))
    have a0 := ((Ext.refl w1).alloc_right (.cells #[.int .u8 1] 5)).cell b0
    have a1 := ((Ext.refl w1).alloc_right (.cells #[.int .u8 1] 5)).cell b1
    have eu : IntKind.u8.wrap 1 = 1 := Pg.u8_in 1 (by omega) (by omega)
    go_upto_region 2 with fail
    generalize w1.alloc (.cells #[.int .u8 1] 5) = w2 at *
    have lt2 := World.block_lt_of_cell? w2 _ a0
    clear b0 b1 b2 lt hcv
    go_wp2_with fail
    refine (hh.out _).mono ?_
    rintro e w3 ⟨rfl, hx3⟩
    have hE3 := hid (hEa.out.trans hx3)
    go_wp2
    go_ret
    exact ⟨rfl, hE3.out⟩
  · have h0 := isNum_iff.1 hn
    have hf := hid (keyB_2 n s p c)
    generalize keyB 2 n s p c = K at *
    obtain ⟨m, hm9⟩ : ∃ m : Nat, m = (n + 1000000000000000).toNat := ⟨_, rfl⟩
    have hh : Hid (∀ w, Calls Tryd.prog 82 #[.int .i64 m, .int .i64 8] w (Give (.string (strB (highL m 8))) w)) := fun w => high_any m 8 (by omega) (by omega) (by omega) w
    rw [← hm9] at hf
    have em : IntKind.i64.wrap (n + 1000000000000000) = (m : Int) := by rw [IntWalk.i64_in _ (by omega)]; omega
    clear hm9 h0 hn
    have ad := str_add (strB [byo 2]) (strB (highL m 8)) (by rw [strB_size, high_size]; simp)
    replace hf : Hid (strB [byo 2] ++ strB (highL m 8) = K) := hf.out.symm
    rw [hf.out] at ad
    generalize strB (highL m 8) = Y at *
    have hc1 : Hid (∀ w : World, (convert 49 9 (.slice (some ⟨w.heap.size, 0, none⟩) 1 1)).run Tryd.prog (w.alloc (.cells #[.int .u8 2] 5)) = .ok (.string (strB [byo 2])) (w.alloc (.cells #[.int .u8 2] 5))) := fun w => Pg.conv_one w 2 (by omega) (by omega)
    generalize strB [byo 2] = Z at *
    go_enter Tryd.func57, Tryd.ntmps57
    go_upto_region 1 with fail
    generalize hw_ : w.alloc (.cells #[.int .i64 2, .int .i64 n, .string s] 23) = w1
    have hx1 : Ext (w.alloc (.cells #[.int .i64 2, .int .i64 n, .string s] 23)) w1 := by rw [hw_]; exact Ext.refl _
    clear hw_
    have b0 : w1.cell? ⟨w.heap.size, 0, none⟩ = some (.int .i64 2) := hx1.cell (by go_simp)
    have b1 : w1.cell? ⟨w.heap.size, 1, none⟩ = some (.int .i64 n) := hx1.cell (by go_simp)
    have b2 : w1.cell? ⟨w.heap.size, 2, none⟩ = some (.string s) := hx1.cell (by go_simp)
    have hE := hid (Ext.trans ((Ext.refl w).alloc_right _) hx1)
    have lt := World.block_lt_of_cell? w1 _ b0
    clear hx1
    have hcv := hc1.out w1
    have hEa := hid (hE.out.alloc_right (.cells #[.int .u8 2] 5))
    have a0 := ((Ext.refl w1).alloc_right (.cells #[.int .u8 2] 5)).cell b0
    have a1 := ((Ext.refl w1).alloc_right (.cells #[.int .u8 2] 5)).cell b1
    have eu : IntKind.u8.wrap 2 = 2 := Pg.u8_in 2 (by omega) (by omega)
    go_upto_region 2 with fail
    generalize w1.alloc (.cells #[.int .u8 2] 5) = w2 at *
    have lt2 := World.block_lt_of_cell? w2 _ a0
    clear b0 b1 b2 lt hcv
    go_wp2_with fail
    refine (hh.out _).mono ?_
    rintro e w3 ⟨rfl, hx3⟩
    have hE3 := hid (hEa.out.trans hx3)
    go_wp2
    go_ret
    exact ⟨rfl, hE3.out⟩
  · have h0 : 0 ≤ n ∧ n ≤ 3652059 := by unfold isDayB at hn; simpa using hn
    have hf := hid (keyB_3 n s p c)
    generalize keyB 3 n s p c = K at *
    obtain ⟨m, hm9⟩ : ∃ m : Nat, m = n.toNat := ⟨_, rfl⟩
    have hh : Hid (∀ w, Calls Tryd.prog 82 #[.int .i64 m, .int .i64 4] w (Give (.string (strB (highL m 4))) w)) := fun w => high_any m 4 (by omega) (by omega) (by omega) w
    rw [← hm9] at hf
    obtain rfl : n = (m : Int) := by omega
    clear hm9 h0 hn
    have ad := str_add (strB [byo 3]) (strB (highL m 4)) (by rw [strB_size, high_size]; simp)
    replace hf : Hid (strB [byo 3] ++ strB (highL m 4) = K) := hf.out.symm
    rw [hf.out] at ad
    generalize strB (highL m 4) = Y at *
    have hc1 : Hid (∀ w : World, (convert 49 9 (.slice (some ⟨w.heap.size, 0, none⟩) 1 1)).run Tryd.prog (w.alloc (.cells #[.int .u8 3] 5)) = .ok (.string (strB [byo 3])) (w.alloc (.cells #[.int .u8 3] 5))) := fun w => Pg.conv_one w 3 (by omega) (by omega)
    generalize strB [byo 3] = Z at *
    go_enter Tryd.func57, Tryd.ntmps57
    go_upto_region 1 with fail
    generalize hw_ : w.alloc (.cells #[.int .i64 3, .int .i64 (m : Int), .string s] 23) = w1
    have hx1 : Ext (w.alloc (.cells #[.int .i64 3, .int .i64 (m : Int), .string s] 23)) w1 := by rw [hw_]; exact Ext.refl _
    clear hw_
    have b0 : w1.cell? ⟨w.heap.size, 0, none⟩ = some (.int .i64 3) := hx1.cell (by go_simp)
    have b1 : w1.cell? ⟨w.heap.size, 1, none⟩ = some (.int .i64 (m : Int)) := hx1.cell (by go_simp)
    have b2 : w1.cell? ⟨w.heap.size, 2, none⟩ = some (.string s) := hx1.cell (by go_simp)
    have hE := hid (Ext.trans ((Ext.refl w).alloc_right _) hx1)
    have lt := World.block_lt_of_cell? w1 _ b0
    clear hx1
    have hcv := hc1.out w1
    have hEa := hid (hE.out.alloc_right (.cells #[.int .u8 3] 5))
    have a0 := ((Ext.refl w1).alloc_right (.cells #[.int .u8 3] 5)).cell b0
    have a1 := ((Ext.refl w1).alloc_right (.cells #[.int .u8 3] 5)).cell b1
    have eu : IntKind.u8.wrap 3 = 3 := Pg.u8_in 3 (by omega) (by omega)
    go_upto_region 2 with fail
    generalize w1.alloc (.cells #[.int .u8 3] 5) = w2 at *
    have lt2 := World.block_lt_of_cell? w2 _ a0
    clear b0 b1 b2 lt hcv
    go_wp2_with fail
    refine (hh.out _).mono ?_
    rintro e w3 ⟨rfl, hx3⟩
    have hE3 := hid (hEa.out.trans hx3)
    go_wp2
    go_ret
    exact ⟨rfl, hE3.out⟩
  · have hf := hid (keyB_4 n s p c)
    generalize keyB 4 n s p c = K at *
    have hh := hid (fun w hm => weights_any s p c h w hm)
    have hzz := esc_size s p c
    have ad1 := str_add (strB (escL (wt s p c))) ⟨#[0, 0]⟩ (by show _ + 2 ≤ _; omega)
    have ad := str_add (strB [byo 4]) (strB (escL (wt s p c)) ++ ⟨#[0, 0]⟩) (by rw [strB_size, ByteArray.size_append]; show 1 + (_ + 2) ≤ _; omega)
    rw [← hf.out] at ad
    generalize strB (escL (wt s p c)) = Y at *
    generalize Y ++ (⟨#[0, 0]⟩ : ByteArray) = Y2 at *
    have hc1 : Hid (∀ w : World, (convert 49 9 (.slice (some ⟨w.heap.size, 0, none⟩) 1 1)).run Tryd.prog (w.alloc (.cells #[.int .u8 4] 5)) = .ok (.string (strB [byo 4])) (w.alloc (.cells #[.int .u8 4] 5))) := fun w => Pg.conv_one w 4 (by omega) (by omega)
    generalize strB [byo 4] = Z at *
    clear hf hzz
    replace hm := hid hm
    go_enter Tryd.func57, Tryd.ntmps57
    go_upto_region 1 with fail
    generalize hw_ : w.alloc (.cells #[.int .i64 4, .int .i64 n, .string s] 23) = w1
    have hx1 : Ext (w.alloc (.cells #[.int .i64 4, .int .i64 n, .string s] 23)) w1 := by rw [hw_]; exact Ext.refl _
    clear hw_
    have b0 : w1.cell? ⟨w.heap.size, 0, none⟩ = some (.int .i64 4) := hx1.cell (by go_simp)
    have b1 : w1.cell? ⟨w.heap.size, 1, none⟩ = some (.int .i64 n) := hx1.cell (by go_simp)
    have b2 : w1.cell? ⟨w.heap.size, 2, none⟩ = some (.string s) := hx1.cell (by go_simp)
    have hE := hid (Ext.trans ((Ext.refl w).alloc_right _) hx1)
    have lt := World.block_lt_of_cell? w1 _ b0
    clear hx1
    have hcv := hc1.out w1
    have hEa := hid (hE.out.alloc_right (.cells #[.int .u8 4] 5))
    have a0 := ((Ext.refl w1).alloc_right (.cells #[.int .u8 4] 5)).cell b0
    have a2 := ((Ext.refl w1).alloc_right (.cells #[.int .u8 4] 5)).cell b2
    have eu : IntKind.u8.wrap 4 = 4 := Pg.u8_in 4 (by omega) (by omega)
    go_upto_region 2 with fail
    generalize w1.alloc (.cells #[.int .u8 4] 5) = w2 at *
    have lt2 := World.block_lt_of_cell? w2 _ a0
    clear b0 b1 b2 lt hcv
    go_wp2_with fail
    refine (hh.out _ (hm.out.ext hEa.out)).mono ?_
    rintro e w3 ⟨rfl, hx3⟩
    have hE3 := hid (hEa.out.trans hx3)
    go_wp2
    go_ret
    exact ⟨rfl, hE3.out⟩
set_option maxRecDepth 100000 in
set_option maxHeartbeats 4000000 in
theorem rKeyOf_any (k n : Int) (s : ByteArray) (p c : Int) (d : Bool) (he : valE k n s = 0) (h : Co p c) (w : World) : Calls Tryd.prog 51 #[vV k n s, .int .i64 p, .int .i64 c, .bool d] w (Give (.string (turnS d (keyB k n s p c))) w) := by
  have hk := val_kinds he
  have hz := val_size he
  clear he
  unfold vV at *
  rcases hk with rfl | ⟨rfl, hn⟩ | ⟨rfl, hn⟩ | ⟨rfl, hn⟩ | rfl
  · have hf := hid (keyB_0 n s p c)
    have hT := hid (fun w => rturned_any (keyB 0 n s p c) d (by have := keyB_size 0 n s p c; omega) w)
    generalize keyB 0 n s p c = K at *
    have hc1 : Hid (∀ w : World, (convert 49 9 (.slice (some ⟨w.heap.size, 0, none⟩) 1 1)).run Tryd.prog (w.alloc (.cells #[.int .u8 0] 5)) = .ok (.string (strB [byo 0])) (w.alloc (.cells #[.int .u8 0] 5))) := fun w => Pg.conv_one w 0 (by omega) (by omega)
    rw [← hf.out] at hc1
    go_enter Tryd.func51, Tryd.ntmps51
    go_upto_region 1 with fail
    generalize hw_ : w.alloc (.cells #[.int .i64 0, .int .i64 n, .string s] 23) = w1
    have hx1 : Ext (w.alloc (.cells #[.int .i64 0, .int .i64 n, .string s] 23)) w1 := by rw [hw_]; exact Ext.refl _
    clear hw_
    have b0 : w1.cell? ⟨w.heap.size, 0, none⟩ = some (.int .i64 0) := hx1.cell (by go_simp)
    have b1 : w1.cell? ⟨w.heap.size, 1, none⟩ = some (.int .i64 n) := hx1.cell (by go_simp)
    have b2 : w1.cell? ⟨w.heap.size, 2, none⟩ = some (.string s) := hx1.cell (by go_simp)
    have hE := hid (Ext.trans ((Ext.refl w).alloc_right _) hx1)
    have lt := World.block_lt_of_cell? w1 _ b0
    clear hx1
    have hcv := hc1.out w1
    have hEa := hid (hE.out.alloc_right (.cells #[.int .u8 0] 5))
    have eu : IntKind.u8.wrap 0 = 0 := Pg.u8_in 0 (by omega) (by omega)
    go_wp2_with fail
    refine (hT.out _).mono ?_
    rintro e w9 ⟨rfl, hx9⟩
    go_wp2
    go_ret
    exact ⟨rfl, hEa.out.trans hx9⟩
  · have h0 : 0 ≤ n ∧ n ≤ 1 := by omega
    have hf := hid (keyB_1 n s p c)
    have hT := hid (fun w => rturned_any (keyB 1 n s p c) d (by have := keyB_size 1 n s p c; omega) w)
    generalize keyB 1 n s p c = K at *
    obtain ⟨m, hm9⟩ : ∃ m : Nat, m = n.toNat := ⟨_, rfl⟩
    have hh : Hid (∀ w, Calls Tryd.prog 77 #[.int .i64 m, .int .i64 1] w (Give (.string (strB (highL m 1))) w)) := fun w => rhigh_any m 1 (by omega) (by omega) (by omega) w
    rw [← hm9] at hf
    obtain rfl : n = (m : Int) := by omega
    clear hm9 h0 hn
    have ad := str_add (strB [byo 1]) (strB (highL m 1)) (by rw [strB_size, high_size]; simp)
    replace hf : Hid (strB [byo 1] ++ strB (highL m 1) = K) := hf.out.symm
    rw [hf.out] at ad
    generalize strB (highL m 1) = Y at *
    have hc1 : Hid (∀ w : World, (convert 49 9 (.slice (some ⟨w.heap.size, 0, none⟩) 1 1)).run Tryd.prog (w.alloc (.cells #[.int .u8 1] 5)) = .ok (.string (strB [byo 1])) (w.alloc (.cells #[.int .u8 1] 5))) := fun w => Pg.conv_one w 1 (by omega) (by omega)
    generalize strB [byo 1] = Z at *
    go_enter Tryd.func51, Tryd.ntmps51
    go_upto_region 1 with fail
    generalize hw_ : w.alloc (.cells #[.int .i64 1, .int .i64 (m : Int), .string s] 23) = w1
    have hx1 : Ext (w.alloc (.cells #[.int .i64 1, .int .i64 (m : Int), .string s] 23)) w1 := by rw [hw_]; exact Ext.refl _
    clear hw_
    have b0 : w1.cell? ⟨w.heap.size, 0, none⟩ = some (.int .i64 1) := hx1.cell (by go_simp)
    have b1 : w1.cell? ⟨w.heap.size, 1, none⟩ = some (.int .i64 (m : Int)) := hx1.cell (by go_simp)
    have b2 : w1.cell? ⟨w.heap.size, 2, none⟩ = some (.string s) := hx1.cell (by go_simp)
    have hE := hid (Ext.trans ((Ext.refl w).alloc_right _) hx1)
    have lt := World.block_lt_of_cell? w1 _ b0
    clear hx1
    have hcv := hc1.out w1
    have hEa := hid (hE.out.alloc_right (.cells #[.int .u8 1] 5))
    have a0 := ((Ext.refl w1).alloc_right (.cells #[.int .u8 1] 5)).cell b0
    have a1 := ((Ext.refl w1).alloc_right (.cells #[.int .u8 1] 5)).cell b1
    have eu : IntKind.u8.wrap 1 = 1 := Pg.u8_in 1 (by omega) (by omega)
    go_upto_region 2 with fail
    generalize w1.alloc (.cells #[.int .u8 1] 5) = w2 at *
    have lt2 := World.block_lt_of_cell? w2 _ a0
    clear b0 b1 b2 lt hcv
    go_wp2_with fail
    refine (hh.out _).mono ?_
    rintro e w3 ⟨rfl, hx3⟩
    have hE3 := hid (hEa.out.trans hx3)
    go_wp2_with fail
    refine (hT.out _).mono ?_
    rintro e w9 ⟨rfl, hx9⟩
    go_wp2
    go_ret
    exact ⟨rfl, hE3.out.trans hx9⟩
  · have h0 := isNum_iff.1 hn
    have hf := hid (keyB_2 n s p c)
    have hT := hid (fun w => rturned_any (keyB 2 n s p c) d (by have := keyB_size 2 n s p c; omega) w)
    generalize keyB 2 n s p c = K at *
    obtain ⟨m, hm9⟩ : ∃ m : Nat, m = (n + 1000000000000000).toNat := ⟨_, rfl⟩
    have hh : Hid (∀ w, Calls Tryd.prog 77 #[.int .i64 m, .int .i64 8] w (Give (.string (strB (highL m 8))) w)) := fun w => rhigh_any m 8 (by omega) (by omega) (by omega) w
    rw [← hm9] at hf
    have em : IntKind.i64.wrap (n + 1000000000000000) = (m : Int) := by rw [IntWalk.i64_in _ (by omega)]; omega
    clear hm9 h0 hn
    have ad := str_add (strB [byo 2]) (strB (highL m 8)) (by rw [strB_size, high_size]; simp)
    replace hf : Hid (strB [byo 2] ++ strB (highL m 8) = K) := hf.out.symm
    rw [hf.out] at ad
    generalize strB (highL m 8) = Y at *
    have hc1 : Hid (∀ w : World, (convert 49 9 (.slice (some ⟨w.heap.size, 0, none⟩) 1 1)).run Tryd.prog (w.alloc (.cells #[.int .u8 2] 5)) = .ok (.string (strB [byo 2])) (w.alloc (.cells #[.int .u8 2] 5))) := fun w => Pg.conv_one w 2 (by omega) (by omega)
    generalize strB [byo 2] = Z at *
    go_enter Tryd.func51, Tryd.ntmps51
    go_upto_region 1 with fail
    generalize hw_ : w.alloc (.cells #[.int .i64 2, .int .i64 n, .string s] 23) = w1
    have hx1 : Ext (w.alloc (.cells #[.int .i64 2, .int .i64 n, .string s] 23)) w1 := by rw [hw_]; exact Ext.refl _
    clear hw_
    have b0 : w1.cell? ⟨w.heap.size, 0, none⟩ = some (.int .i64 2) := hx1.cell (by go_simp)
    have b1 : w1.cell? ⟨w.heap.size, 1, none⟩ = some (.int .i64 n) := hx1.cell (by go_simp)
    have b2 : w1.cell? ⟨w.heap.size, 2, none⟩ = some (.string s) := hx1.cell (by go_simp)
    have hE := hid (Ext.trans ((Ext.refl w).alloc_right _) hx1)
    have lt := World.block_lt_of_cell? w1 _ b0
    clear hx1
    have hcv := hc1.out w1
    have hEa := hid (hE.out.alloc_right (.cells #[.int .u8 2] 5))
    have a0 := ((Ext.refl w1).alloc_right (.cells #[.int .u8 2] 5)).cell b0
    have a1 := ((Ext.refl w1).alloc_right (.cells #[.int .u8 2] 5)).cell b1
    have eu : IntKind.u8.wrap 2 = 2 := Pg.u8_in 2 (by omega) (by omega)
    go_upto_region 2 with fail
    generalize w1.alloc (.cells #[.int .u8 2] 5) = w2 at *
    have lt2 := World.block_lt_of_cell? w2 _ a0
    clear b0 b1 b2 lt hcv
    go_wp2_with fail
    refine (hh.out _).mono ?_
    rintro e w3 ⟨rfl, hx3⟩
    have hE3 := hid (hEa.out.trans hx3)
    go_wp2_with fail
    refine (hT.out _).mono ?_
    rintro e w9 ⟨rfl, hx9⟩
    go_wp2
    go_ret
    exact ⟨rfl, hE3.out.trans hx9⟩
  · have h0 : 0 ≤ n ∧ n ≤ 3652059 := by unfold isDayB at hn; simpa using hn
    have hf := hid (keyB_3 n s p c)
    have hT := hid (fun w => rturned_any (keyB 3 n s p c) d (by have := keyB_size 3 n s p c; omega) w)
    generalize keyB 3 n s p c = K at *
    obtain ⟨m, hm9⟩ : ∃ m : Nat, m = n.toNat := ⟨_, rfl⟩
    have hh : Hid (∀ w, Calls Tryd.prog 77 #[.int .i64 m, .int .i64 4] w (Give (.string (strB (highL m 4))) w)) := fun w => rhigh_any m 4 (by omega) (by omega) (by omega) w
    rw [← hm9] at hf
    obtain rfl : n = (m : Int) := by omega
    clear hm9 h0 hn
    have ad := str_add (strB [byo 3]) (strB (highL m 4)) (by rw [strB_size, high_size]; simp)
    replace hf : Hid (strB [byo 3] ++ strB (highL m 4) = K) := hf.out.symm
    rw [hf.out] at ad
    generalize strB (highL m 4) = Y at *
    have hc1 : Hid (∀ w : World, (convert 49 9 (.slice (some ⟨w.heap.size, 0, none⟩) 1 1)).run Tryd.prog (w.alloc (.cells #[.int .u8 3] 5)) = .ok (.string (strB [byo 3])) (w.alloc (.cells #[.int .u8 3] 5))) := fun w => Pg.conv_one w 3 (by omega) (by omega)
    generalize strB [byo 3] = Z at *
    go_enter Tryd.func51, Tryd.ntmps51
    go_upto_region 1 with fail
    generalize hw_ : w.alloc (.cells #[.int .i64 3, .int .i64 (m : Int), .string s] 23) = w1
    have hx1 : Ext (w.alloc (.cells #[.int .i64 3, .int .i64 (m : Int), .string s] 23)) w1 := by rw [hw_]; exact Ext.refl _
    clear hw_
    have b0 : w1.cell? ⟨w.heap.size, 0, none⟩ = some (.int .i64 3) := hx1.cell (by go_simp)
    have b1 : w1.cell? ⟨w.heap.size, 1, none⟩ = some (.int .i64 (m : Int)) := hx1.cell (by go_simp)
    have b2 : w1.cell? ⟨w.heap.size, 2, none⟩ = some (.string s) := hx1.cell (by go_simp)
    have hE := hid (Ext.trans ((Ext.refl w).alloc_right _) hx1)
    have lt := World.block_lt_of_cell? w1 _ b0
    clear hx1
    have hcv := hc1.out w1
    have hEa := hid (hE.out.alloc_right (.cells #[.int .u8 3] 5))
    have a0 := ((Ext.refl w1).alloc_right (.cells #[.int .u8 3] 5)).cell b0
    have a1 := ((Ext.refl w1).alloc_right (.cells #[.int .u8 3] 5)).cell b1
    have eu : IntKind.u8.wrap 3 = 3 := Pg.u8_in 3 (by omega) (by omega)
    go_upto_region 2 with fail
    generalize w1.alloc (.cells #[.int .u8 3] 5) = w2 at *
    have lt2 := World.block_lt_of_cell? w2 _ a0
    clear b0 b1 b2 lt hcv
    go_wp2_with fail
    refine (hh.out _).mono ?_
    rintro e w3 ⟨rfl, hx3⟩
    have hE3 := hid (hEa.out.trans hx3)
    go_wp2_with fail
    refine (hT.out _).mono ?_
    rintro e w9 ⟨rfl, hx9⟩
    go_wp2
    go_ret
    exact ⟨rfl, hE3.out.trans hx9⟩
  · have hf := hid (keyB_4 n s p c)
    have hT := hid (fun w => rturned_any (keyB 4 n s p c) d (by have := keyB_size 4 n s p c; omega) w)
    generalize keyB 4 n s p c = K at *
    have hh := hid (fun w => rweighed_any s p c h w)
    have hzz := esc_size s p c
    have ad1 := str_add (strB (escL (wt s p c))) ⟨#[0, 0]⟩ (by show _ + 2 ≤ _; omega)
    have ad := str_add (strB [byo 4]) (strB (escL (wt s p c)) ++ ⟨#[0, 0]⟩) (by rw [strB_size, ByteArray.size_append]; show 1 + (_ + 2) ≤ _; omega)
    rw [← hf.out] at ad
    generalize strB (escL (wt s p c)) = Y at *
    generalize Y ++ (⟨#[0, 0]⟩ : ByteArray) = Y2 at *
    have hc1 : Hid (∀ w : World, (convert 49 9 (.slice (some ⟨w.heap.size, 0, none⟩) 1 1)).run Tryd.prog (w.alloc (.cells #[.int .u8 4] 5)) = .ok (.string (strB [byo 4])) (w.alloc (.cells #[.int .u8 4] 5))) := fun w => Pg.conv_one w 4 (by omega) (by omega)
    generalize strB [byo 4] = Z at *
    clear hf hzz
    
    go_enter Tryd.func51, Tryd.ntmps51
    go_upto_region 1 with fail
    generalize hw_ : w.alloc (.cells #[.int .i64 4, .int .i64 n, .string s] 23) = w1
    have hx1 : Ext (w.alloc (.cells #[.int .i64 4, .int .i64 n, .string s] 23)) w1 := by rw [hw_]; exact Ext.refl _
    clear hw_
    have b0 : w1.cell? ⟨w.heap.size, 0, none⟩ = some (.int .i64 4) := hx1.cell (by go_simp)
    have b1 : w1.cell? ⟨w.heap.size, 1, none⟩ = some (.int .i64 n) := hx1.cell (by go_simp)
    have b2 : w1.cell? ⟨w.heap.size, 2, none⟩ = some (.string s) := hx1.cell (by go_simp)
    have hE := hid (Ext.trans ((Ext.refl w).alloc_right _) hx1)
    have lt := World.block_lt_of_cell? w1 _ b0
    clear hx1
    have hcv := hc1.out w1
    have hEa := hid (hE.out.alloc_right (.cells #[.int .u8 4] 5))
    have a0 := ((Ext.refl w1).alloc_right (.cells #[.int .u8 4] 5)).cell b0
    have a2 := ((Ext.refl w1).alloc_right (.cells #[.int .u8 4] 5)).cell b2
    have eu : IntKind.u8.wrap 4 = 4 := Pg.u8_in 4 (by omega) (by omega)
    go_upto_region 2 with fail
    generalize w1.alloc (.cells #[.int .u8 4] 5) = w2 at *
    have lt2 := World.block_lt_of_cell? w2 _ a0
    clear b0 b1 b2 lt hcv
    go_wp2_with fail
    refine (hh.out _).mono ?_
    rintro e w3 ⟨rfl, hx3⟩
    have hE3 := hid (hEa.out.trans hx3)
    go_wp2_with fail
    refine (hT.out _).mono ?_
    rintro e w9 ⟨rfl, hx9⟩
    go_wp2
    go_ret
    exact ⟨rfl, hE3.out.trans hx9⟩
end Go.Proofs.YtlfanhlkoepodaaDoor
