import Derived.Test.YtffcaoicokookaaP2
namespace Go.Proofs.Ytffcaoicokookaa
open Go.RowKit
attribute [local go_sem ↓] Go.wp_at_zero Go.wp_at_succ
set_option linter.unusedVariables false

set_option maxRecDepth 100000 in
set_option maxHeartbeats 2000000 in
theorem morgan_over1 (A : Option Addr) (n c : Nat) (l : List Int) (B : Option Addr) (m d : Nat) (r : List Int) (A' : Option Addr) (n' c' : Nat) (l' : List Int) (B' : Option Addr) (m' d' : Nat) (r' : List Int) (N : Int) (w : World) (hs : RdI w A n c l) (ht : RdI w B m d r) (hs' : RdI w A' n' c' l') (ht' : RdI w B' m' d' r') (h1 : overB n m = true) : Calls Try.prog 6 #[.agg #[.slice A n c, .slice B m d], .agg #[.slice A' n' c', .slice B' m' d'], .int .i64 N] w (Give (.bool true) w) := by
  go_enter Try.func6, Try.ntmps6
  have s1 := hid hs
  have t1 := hid ht
  have s2 := hid hs'
  have t2 := hid ht'
  clear hs ht hs' ht'
  go_wp2_with fail
  refine (over_any _ _ _ _ _ _ _ _ _ ((s1.out.alloc _).alloc _) ((t1.out.alloc _).alloc _)).mono ?_
  rintro e w1 ⟨rfl, hx1⟩
  have c0_0_0 : w1.cell? ⟨w.heap.size, 0, none⟩ = some (.slice A n c) := hx1.cell (by go_simp)
  have c0_0_1 : w1.cell? ⟨w.heap.size, 1, none⟩ = some (.slice B m d) := hx1.cell (by go_simp)
  have c0_1_0 : w1.cell? ⟨w.heap.size + 1, 0, none⟩ = some (.slice A' n' c') := hx1.cell (by go_simp)
  have c0_1_1 : w1.cell? ⟨w.heap.size + 1, 1, none⟩ = some (.slice B' m' d') := hx1.cell (by go_simp)
  replace s1 := hid (((s1.out.alloc _).alloc _).ext hx1)
  replace t1 := hid (((t1.out.alloc _).alloc _).ext hx1)
  replace s2 := hid (((s2.out.alloc _).alloc _).ext hx1)
  replace t2 := hid (((t2.out.alloc _).alloc _).ext hx1)
  have hE := hid (Ext.trans (((Ext.refl w).alloc_right _).alloc_right _) hx1)
  have lt_1 : w.heap.size < w1.heap.size := World.block_lt_of_cell? w1 _ c0_0_0
  have lt_2 : w.heap.size + 1 < w1.heap.size := World.block_lt_of_cell? w1 _ c0_1_0
  clear hx1
  go_wp2_with fail
  refine (known_any _).mono ?_
  rintro e w2 ⟨rfl, hx2⟩
  replace c0_0_0 := hx2.cell c0_0_0
  replace c0_0_1 := hx2.cell c0_0_1
  replace c0_1_0 := hx2.cell c0_1_0
  replace c0_1_1 := hx2.cell c0_1_1
  replace s1 := hid (s1.out.ext hx2)
  replace t1 := hid (t1.out.ext hx2)
  replace s2 := hid (s2.out.ext hx2)
  replace t2 := hid (t2.out.ext hx2)
  replace hE := hid (Ext.trans hE.out hx2)
  clear lt_1
  have lt_1 : w.heap.size < w2.heap.size := World.block_lt_of_cell? w2 _ c0_0_0
  clear lt_2
  have lt_2 : w.heap.size + 1 < w2.heap.size := World.block_lt_of_cell? w2 _ c0_1_0
  clear hx2
  go_wp2
  go_ret
  exact ⟨rfl, hE.out⟩

set_option maxRecDepth 100000 in
set_option maxHeartbeats 2000000 in
theorem morgan_over2 (A : Option Addr) (n c : Nat) (l : List Int) (B : Option Addr) (m d : Nat) (r : List Int) (A' : Option Addr) (n' c' : Nat) (l' : List Int) (B' : Option Addr) (m' d' : Nat) (r' : List Int) (N : Int) (w : World) (hs : RdI w A n c l) (ht : RdI w B m d r) (hs' : RdI w A' n' c' l') (ht' : RdI w B' m' d' r') (h1 : overB n m = false) (h2 : overB n' m' = true) : Calls Try.prog 6 #[.agg #[.slice A n c, .slice B m d], .agg #[.slice A' n' c', .slice B' m' d'], .int .i64 N] w (Give (.bool true) w) := by
  go_enter Try.func6, Try.ntmps6
  have s1 := hid hs
  have t1 := hid ht
  have s2 := hid hs'
  have t2 := hid ht'
  clear hs ht hs' ht'
  go_wp2_with fail
  refine (over_any _ _ _ _ _ _ _ _ _ ((s1.out.alloc _).alloc _) ((t1.out.alloc _).alloc _)).mono ?_
  rintro e w1 ⟨rfl, hx1⟩
  have c0_0_0 : w1.cell? ⟨w.heap.size, 0, none⟩ = some (.slice A n c) := hx1.cell (by go_simp)
  have c0_0_1 : w1.cell? ⟨w.heap.size, 1, none⟩ = some (.slice B m d) := hx1.cell (by go_simp)
  have c0_1_0 : w1.cell? ⟨w.heap.size + 1, 0, none⟩ = some (.slice A' n' c') := hx1.cell (by go_simp)
  have c0_1_1 : w1.cell? ⟨w.heap.size + 1, 1, none⟩ = some (.slice B' m' d') := hx1.cell (by go_simp)
  replace s1 := hid (((s1.out.alloc _).alloc _).ext hx1)
  replace t1 := hid (((t1.out.alloc _).alloc _).ext hx1)
  replace s2 := hid (((s2.out.alloc _).alloc _).ext hx1)
  replace t2 := hid (((t2.out.alloc _).alloc _).ext hx1)
  have hE := hid (Ext.trans (((Ext.refl w).alloc_right _).alloc_right _) hx1)
  have lt_1 : w.heap.size < w1.heap.size := World.block_lt_of_cell? w1 _ c0_0_0
  have lt_2 : w.heap.size + 1 < w1.heap.size := World.block_lt_of_cell? w1 _ c0_1_0
  clear hx1
  go_wp2_with fail
  refine (over_any _ _ _ _ _ _ _ _ _ s2.out t2.out).mono ?_
  rintro e w2 ⟨rfl, hx2⟩
  replace c0_0_0 := hx2.cell c0_0_0
  replace c0_0_1 := hx2.cell c0_0_1
  replace c0_1_0 := hx2.cell c0_1_0
  replace c0_1_1 := hx2.cell c0_1_1
  replace s1 := hid (s1.out.ext hx2)
  replace t1 := hid (t1.out.ext hx2)
  replace s2 := hid (s2.out.ext hx2)
  replace t2 := hid (t2.out.ext hx2)
  replace hE := hid (Ext.trans hE.out hx2)
  clear lt_1
  have lt_1 : w.heap.size < w2.heap.size := World.block_lt_of_cell? w2 _ c0_0_0
  clear lt_2
  have lt_2 : w.heap.size + 1 < w2.heap.size := World.block_lt_of_cell? w2 _ c0_1_0
  clear hx2
  go_wp2_with fail
  refine (known_any _).mono ?_
  rintro e w3 ⟨rfl, hx3⟩
  replace c0_0_0 := hx3.cell c0_0_0
  replace c0_0_1 := hx3.cell c0_0_1
  replace c0_1_0 := hx3.cell c0_1_0
  replace c0_1_1 := hx3.cell c0_1_1
  replace s1 := hid (s1.out.ext hx3)
  replace t1 := hid (t1.out.ext hx3)
  replace s2 := hid (s2.out.ext hx3)
  replace t2 := hid (t2.out.ext hx3)
  replace hE := hid (Ext.trans hE.out hx3)
  clear lt_1
  have lt_1 : w.heap.size < w3.heap.size := World.block_lt_of_cell? w3 _ c0_0_0
  clear lt_2
  have lt_2 : w.heap.size + 1 < w3.heap.size := World.block_lt_of_cell? w3 _ c0_1_0
  clear hx3
  go_wp2
  go_ret
  exact ⟨rfl, hE.out⟩

set_option maxRecDepth 100000 in
set_option maxHeartbeats 2000000 in
theorem morgan_no (A : Option Addr) (n c : Nat) (l : List Int) (B : Option Addr) (m d : Nat) (r : List Int) (A' : Option Addr) (n' c' : Nat) (l' : List Int) (B' : Option Addr) (m' d' : Nat) (r' : List Int) (N : Int) (w : World) (hs : RdI w A n c l) (ht : RdI w B m d r) (hs' : RdI w A' n' c' l') (ht' : RdI w B' m' d' r') (hn : n ≤ 3000) (hm : m ≤ 3000) (hn' : n' ≤ 3000) (hm' : m' ≤ 3000) (e1 : (notE l r N != 0) = true) : Calls Try.prog 6 #[.agg #[.slice A n c, .slice B m d], .agg #[.slice A' n' c', .slice B' m' d'], .int .i64 N] w (Give (.bool true) w) := by
  have o1 : overB n m = false := by simp [overB]; omega
  have o2 : overB n' m' = false := by simp [overB]; omega
  go_enter Try.func6, Try.ntmps6
  have s1 := hid hs
  have t1 := hid ht
  have s2 := hid hs'
  have t2 := hid ht'
  clear hs ht hs' ht'
  go_wp2_with fail
  refine (over_any _ _ _ _ _ _ _ _ _ ((s1.out.alloc _).alloc _) ((t1.out.alloc _).alloc _)).mono ?_
  rintro e w1 ⟨rfl, hx1⟩
  have c0_0_0 : w1.cell? ⟨w.heap.size, 0, none⟩ = some (.slice A n c) := hx1.cell (by go_simp)
  have c0_0_1 : w1.cell? ⟨w.heap.size, 1, none⟩ = some (.slice B m d) := hx1.cell (by go_simp)
  have c0_1_0 : w1.cell? ⟨w.heap.size + 1, 0, none⟩ = some (.slice A' n' c') := hx1.cell (by go_simp)
  have c0_1_1 : w1.cell? ⟨w.heap.size + 1, 1, none⟩ = some (.slice B' m' d') := hx1.cell (by go_simp)
  replace s1 := hid (((s1.out.alloc _).alloc _).ext hx1)
  replace t1 := hid (((t1.out.alloc _).alloc _).ext hx1)
  replace s2 := hid (((s2.out.alloc _).alloc _).ext hx1)
  replace t2 := hid (((t2.out.alloc _).alloc _).ext hx1)
  have hE := hid (Ext.trans (((Ext.refl w).alloc_right _).alloc_right _) hx1)
  have lt_1 : w.heap.size < w1.heap.size := World.block_lt_of_cell? w1 _ c0_0_0
  have lt_2 : w.heap.size + 1 < w1.heap.size := World.block_lt_of_cell? w1 _ c0_1_0
  clear hx1
  go_wp2_with fail
  refine (over_any _ _ _ _ _ _ _ _ _ s2.out t2.out).mono ?_
  rintro e w2 ⟨rfl, hx2⟩
  replace c0_0_0 := hx2.cell c0_0_0
  replace c0_0_1 := hx2.cell c0_0_1
  replace c0_1_0 := hx2.cell c0_1_0
  replace c0_1_1 := hx2.cell c0_1_1
  replace s1 := hid (s1.out.ext hx2)
  replace t1 := hid (t1.out.ext hx2)
  replace s2 := hid (s2.out.ext hx2)
  replace t2 := hid (t2.out.ext hx2)
  replace hE := hid (Ext.trans hE.out hx2)
  clear lt_1
  have lt_1 : w.heap.size < w2.heap.size := World.block_lt_of_cell? w2 _ c0_0_0
  clear lt_2
  have lt_2 : w.heap.size + 1 < w2.heap.size := World.block_lt_of_cell? w2 _ c0_1_0
  clear hx2
  go_wp2_with fail
  refine (Not_any _ _ _ _ _ _ _ _ N _ s1.out t1.out hn hm).mono ?_
  rintro e w3 ⟨Xp, xp, cxp, Yp, yp, cyp, rfl, rxp, ryp, hx3, -, -⟩
  replace c0_0_0 := hx3.cell c0_0_0
  replace c0_0_1 := hx3.cell c0_0_1
  replace c0_1_0 := hx3.cell c0_1_0
  replace c0_1_1 := hx3.cell c0_1_1
  replace s1 := hid (s1.out.ext hx3)
  replace t1 := hid (t1.out.ext hx3)
  replace s2 := hid (s2.out.ext hx3)
  replace t2 := hid (t2.out.ext hx3)
  replace hE := hid (Ext.trans hE.out hx3)
  clear lt_1
  have lt_1 : w.heap.size < w3.heap.size := World.block_lt_of_cell? w3 _ c0_0_0
  clear lt_2
  have lt_2 : w.heap.size + 1 < w3.heap.size := World.block_lt_of_cell? w3 _ c0_1_0
  have Sp := hid rxp
  have Tp := hid ryp
  clear hx3 rxp ryp
  go_wp2_with fail
  refine (Not_any _ _ _ _ _ _ _ _ N _ (s2.out.alloc _) (t2.out.alloc _) hn' hm').mono ?_
  rintro e w4 ⟨Xq, xq, cxq, Yq, yq, cyq, rfl, rxq, ryq, hx4, -, -⟩
  replace c0_0_0 := hx4.cell (cell_alloc c0_0_0 _)
  replace c0_0_1 := hx4.cell (cell_alloc c0_0_1 _)
  replace c0_1_0 := hx4.cell (cell_alloc c0_1_0 _)
  replace c0_1_1 := hx4.cell (cell_alloc c0_1_1 _)
  have c3_0_0 : w4.cell? ⟨w3.heap.size, 0, none⟩ = some (.slice Xp xp cxp) := hx4.cell (by go_simp)
  have c3_0_1 : w4.cell? ⟨w3.heap.size, 1, none⟩ = some (.slice Yp yp cyp) := hx4.cell (by go_simp)
  replace s1 := hid ((s1.out.alloc _).ext hx4)
  replace t1 := hid ((t1.out.alloc _).ext hx4)
  replace s2 := hid ((s2.out.alloc _).ext hx4)
  replace t2 := hid ((t2.out.alloc _).ext hx4)
  replace Sp := hid ((Sp.out.alloc _).ext hx4)
  replace Tp := hid ((Tp.out.alloc _).ext hx4)
  replace hE := hid (Ext.trans (hE.out.alloc_right _) hx4)
  clear lt_1
  have lt_1 : w.heap.size < w4.heap.size := World.block_lt_of_cell? w4 _ c0_0_0
  clear lt_2
  have lt_2 : w.heap.size + 1 < w4.heap.size := World.block_lt_of_cell? w4 _ c0_1_0
  have lt_3 : w3.heap.size < w4.heap.size := World.block_lt_of_cell? w4 _ c3_0_0
  have Sq := hid rxq
  have Tq := hid ryq
  clear hx4 rxq ryq
  go_wp2_with fail
  refine (known_any _).mono ?_
  rintro e w5 ⟨rfl, hx5⟩
  replace c0_0_0 := hx5.cell (cell_alloc c0_0_0 _)
  replace c0_0_1 := hx5.cell (cell_alloc c0_0_1 _)
  replace c0_1_0 := hx5.cell (cell_alloc c0_1_0 _)
  replace c0_1_1 := hx5.cell (cell_alloc c0_1_1 _)
  replace c3_0_0 := hx5.cell (cell_alloc c3_0_0 _)
  replace c3_0_1 := hx5.cell (cell_alloc c3_0_1 _)
  have c4_0_0 : w5.cell? ⟨w4.heap.size, 0, none⟩ = some (.slice Xq xq cxq) := hx5.cell (by go_simp)
  have c4_0_1 : w5.cell? ⟨w4.heap.size, 1, none⟩ = some (.slice Yq yq cyq) := hx5.cell (by go_simp)
  replace s1 := hid ((s1.out.alloc _).ext hx5)
  replace t1 := hid ((t1.out.alloc _).ext hx5)
  replace s2 := hid ((s2.out.alloc _).ext hx5)
  replace t2 := hid ((t2.out.alloc _).ext hx5)
  replace Sp := hid ((Sp.out.alloc _).ext hx5)
  replace Tp := hid ((Tp.out.alloc _).ext hx5)
  replace Sq := hid ((Sq.out.alloc _).ext hx5)
  replace Tq := hid ((Tq.out.alloc _).ext hx5)
  replace hE := hid (Ext.trans (hE.out.alloc_right _) hx5)
  clear lt_1
  have lt_1 : w.heap.size < w5.heap.size := World.block_lt_of_cell? w5 _ c0_0_0
  clear lt_2
  have lt_2 : w.heap.size + 1 < w5.heap.size := World.block_lt_of_cell? w5 _ c0_1_0
  clear lt_3
  have lt_3 : w3.heap.size < w5.heap.size := World.block_lt_of_cell? w5 _ c3_0_0
  have lt_4 : w4.heap.size < w5.heap.size := World.block_lt_of_cell? w5 _ c4_0_0
  clear hx5
  go_wp2
  go_ret
  exact ⟨rfl, hE.out⟩

set_option maxRecDepth 100000 in
set_option maxHeartbeats 2000000 in
theorem morgan_no2 (A : Option Addr) (n c : Nat) (l : List Int) (B : Option Addr) (m d : Nat) (r : List Int) (A' : Option Addr) (n' c' : Nat) (l' : List Int) (B' : Option Addr) (m' d' : Nat) (r' : List Int) (N : Int) (w : World) (hs : RdI w A n c l) (ht : RdI w B m d r) (hs' : RdI w A' n' c' l') (ht' : RdI w B' m' d' r') (hn : n ≤ 3000) (hm : m ≤ 3000) (hn' : n' ≤ 3000) (hm' : m' ≤ 3000) (e1 : (notE l r N != 0) = false) (e2 : (notE l' r' N != 0) = true) : Calls Try.prog 6 #[.agg #[.slice A n c, .slice B m d], .agg #[.slice A' n' c', .slice B' m' d'], .int .i64 N] w (Give (.bool true) w) := by
  have o1 : overB n m = false := by simp [overB]; omega
  have o2 : overB n' m' = false := by simp [overB]; omega
  go_enter Try.func6, Try.ntmps6
  have s1 := hid hs
  have t1 := hid ht
  have s2 := hid hs'
  have t2 := hid ht'
  clear hs ht hs' ht'
  go_wp2_with fail
  refine (over_any _ _ _ _ _ _ _ _ _ ((s1.out.alloc _).alloc _) ((t1.out.alloc _).alloc _)).mono ?_
  rintro e w1 ⟨rfl, hx1⟩
  have c0_0_0 : w1.cell? ⟨w.heap.size, 0, none⟩ = some (.slice A n c) := hx1.cell (by go_simp)
  have c0_0_1 : w1.cell? ⟨w.heap.size, 1, none⟩ = some (.slice B m d) := hx1.cell (by go_simp)
  have c0_1_0 : w1.cell? ⟨w.heap.size + 1, 0, none⟩ = some (.slice A' n' c') := hx1.cell (by go_simp)
  have c0_1_1 : w1.cell? ⟨w.heap.size + 1, 1, none⟩ = some (.slice B' m' d') := hx1.cell (by go_simp)
  replace s1 := hid (((s1.out.alloc _).alloc _).ext hx1)
  replace t1 := hid (((t1.out.alloc _).alloc _).ext hx1)
  replace s2 := hid (((s2.out.alloc _).alloc _).ext hx1)
  replace t2 := hid (((t2.out.alloc _).alloc _).ext hx1)
  have hE := hid (Ext.trans (((Ext.refl w).alloc_right _).alloc_right _) hx1)
  have lt_1 : w.heap.size < w1.heap.size := World.block_lt_of_cell? w1 _ c0_0_0
  have lt_2 : w.heap.size + 1 < w1.heap.size := World.block_lt_of_cell? w1 _ c0_1_0
  clear hx1
  go_wp2_with fail
  refine (over_any _ _ _ _ _ _ _ _ _ s2.out t2.out).mono ?_
  rintro e w2 ⟨rfl, hx2⟩
  replace c0_0_0 := hx2.cell c0_0_0
  replace c0_0_1 := hx2.cell c0_0_1
  replace c0_1_0 := hx2.cell c0_1_0
  replace c0_1_1 := hx2.cell c0_1_1
  replace s1 := hid (s1.out.ext hx2)
  replace t1 := hid (t1.out.ext hx2)
  replace s2 := hid (s2.out.ext hx2)
  replace t2 := hid (t2.out.ext hx2)
  replace hE := hid (Ext.trans hE.out hx2)
  clear lt_1
  have lt_1 : w.heap.size < w2.heap.size := World.block_lt_of_cell? w2 _ c0_0_0
  clear lt_2
  have lt_2 : w.heap.size + 1 < w2.heap.size := World.block_lt_of_cell? w2 _ c0_1_0
  clear hx2
  go_wp2_with fail
  refine (Not_any _ _ _ _ _ _ _ _ N _ s1.out t1.out hn hm).mono ?_
  rintro e w3 ⟨Xp, xp, cxp, Yp, yp, cyp, rfl, rxp, ryp, hx3, -, -⟩
  replace c0_0_0 := hx3.cell c0_0_0
  replace c0_0_1 := hx3.cell c0_0_1
  replace c0_1_0 := hx3.cell c0_1_0
  replace c0_1_1 := hx3.cell c0_1_1
  replace s1 := hid (s1.out.ext hx3)
  replace t1 := hid (t1.out.ext hx3)
  replace s2 := hid (s2.out.ext hx3)
  replace t2 := hid (t2.out.ext hx3)
  replace hE := hid (Ext.trans hE.out hx3)
  clear lt_1
  have lt_1 : w.heap.size < w3.heap.size := World.block_lt_of_cell? w3 _ c0_0_0
  clear lt_2
  have lt_2 : w.heap.size + 1 < w3.heap.size := World.block_lt_of_cell? w3 _ c0_1_0
  have Sp := hid rxp
  have Tp := hid ryp
  clear hx3 rxp ryp
  go_wp2_with fail
  refine (Not_any _ _ _ _ _ _ _ _ N _ (s2.out.alloc _) (t2.out.alloc _) hn' hm').mono ?_
  rintro e w4 ⟨Xq, xq, cxq, Yq, yq, cyq, rfl, rxq, ryq, hx4, -, -⟩
  replace c0_0_0 := hx4.cell (cell_alloc c0_0_0 _)
  replace c0_0_1 := hx4.cell (cell_alloc c0_0_1 _)
  replace c0_1_0 := hx4.cell (cell_alloc c0_1_0 _)
  replace c0_1_1 := hx4.cell (cell_alloc c0_1_1 _)
  have c3_0_0 : w4.cell? ⟨w3.heap.size, 0, none⟩ = some (.slice Xp xp cxp) := hx4.cell (by go_simp)
  have c3_0_1 : w4.cell? ⟨w3.heap.size, 1, none⟩ = some (.slice Yp yp cyp) := hx4.cell (by go_simp)
  replace s1 := hid ((s1.out.alloc _).ext hx4)
  replace t1 := hid ((t1.out.alloc _).ext hx4)
  replace s2 := hid ((s2.out.alloc _).ext hx4)
  replace t2 := hid ((t2.out.alloc _).ext hx4)
  replace Sp := hid ((Sp.out.alloc _).ext hx4)
  replace Tp := hid ((Tp.out.alloc _).ext hx4)
  replace hE := hid (Ext.trans (hE.out.alloc_right _) hx4)
  clear lt_1
  have lt_1 : w.heap.size < w4.heap.size := World.block_lt_of_cell? w4 _ c0_0_0
  clear lt_2
  have lt_2 : w.heap.size + 1 < w4.heap.size := World.block_lt_of_cell? w4 _ c0_1_0
  have lt_3 : w3.heap.size < w4.heap.size := World.block_lt_of_cell? w4 _ c3_0_0
  have Sq := hid rxq
  have Tq := hid ryq
  clear hx4 rxq ryq
  go_wp2_with fail
  refine (known_any _).mono ?_
  rintro e w5 ⟨rfl, hx5⟩
  replace c0_0_0 := hx5.cell (cell_alloc c0_0_0 _)
  replace c0_0_1 := hx5.cell (cell_alloc c0_0_1 _)
  replace c0_1_0 := hx5.cell (cell_alloc c0_1_0 _)
  replace c0_1_1 := hx5.cell (cell_alloc c0_1_1 _)
  replace c3_0_0 := hx5.cell (cell_alloc c3_0_0 _)
  replace c3_0_1 := hx5.cell (cell_alloc c3_0_1 _)
  have c4_0_0 : w5.cell? ⟨w4.heap.size, 0, none⟩ = some (.slice Xq xq cxq) := hx5.cell (by go_simp)
  have c4_0_1 : w5.cell? ⟨w4.heap.size, 1, none⟩ = some (.slice Yq yq cyq) := hx5.cell (by go_simp)
  replace s1 := hid ((s1.out.alloc _).ext hx5)
  replace t1 := hid ((t1.out.alloc _).ext hx5)
  replace s2 := hid ((s2.out.alloc _).ext hx5)
  replace t2 := hid ((t2.out.alloc _).ext hx5)
  replace Sp := hid ((Sp.out.alloc _).ext hx5)
  replace Tp := hid ((Tp.out.alloc _).ext hx5)
  replace Sq := hid ((Sq.out.alloc _).ext hx5)
  replace Tq := hid ((Tq.out.alloc _).ext hx5)
  replace hE := hid (Ext.trans (hE.out.alloc_right _) hx5)
  clear lt_1
  have lt_1 : w.heap.size < w5.heap.size := World.block_lt_of_cell? w5 _ c0_0_0
  clear lt_2
  have lt_2 : w.heap.size + 1 < w5.heap.size := World.block_lt_of_cell? w5 _ c0_1_0
  clear lt_3
  have lt_3 : w3.heap.size < w5.heap.size := World.block_lt_of_cell? w5 _ c3_0_0
  have lt_4 : w4.heap.size < w5.heap.size := World.block_lt_of_cell? w5 _ c4_0_0
  clear hx5
  go_wp2
  go_ret
  exact ⟨rfl, hE.out⟩

set_option maxRecDepth 100000 in
set_option maxHeartbeats 2000000 in
theorem morgan_main (A : Option Addr) (n c : Nat) (l : List Int) (B : Option Addr) (m d : Nat) (r : List Int) (A' : Option Addr) (n' c' : Nat) (l' : List Int) (B' : Option Addr) (m' d' : Nat) (r' : List Int) (N : Int) (w : World) (hs : RdI w A n c l) (ht : RdI w B m d r) (hs' : RdI w A' n' c' l') (ht' : RdI w B' m' d' r') (hn : n ≤ 3000) (hm : m ≤ 3000) (hn' : n' ≤ 3000) (hm' : m' ≤ 3000) (e1 : (notE l r N != 0) = false) (e2 : (notE l' r' N != 0) = false)
    (v1 : Hid (valB l r = true)) (v2 : Hid (valB l' r' = true)) (v3 : Hid (valB (notA l r N) (notB l r N) = true)) (v4 : Hid (valB (notA l' r' N) (notB l' r' N) = true))
    (ba : Hid ((joinS and l l').length ≤ 3000 ∧ (joinS and r r').length ≤ 3000)) (bp : Hid ((notA l r N).length ≤ 3000 ∧ (notB l r N).length ≤ 3000)) (bq : Hid ((notA l' r' N).length ≤ 3000 ∧ (notB l' r' N).length ≤ 3000))
    (k1 : sameS (notA (joinS and l l') (joinS and r r') N) (joinS or (notA l r N) (notA l' r' N)) = true) (k2 : sameS (notB (joinS and l l') (joinS and r r') N) (joinS or (notB l r N) (notB l' r' N)) = true)
    (k3 : sameS (notA (notA l r N) (notB l r N) N) l = true) (k4 : sameS (notB (notA l r N) (notB l r N) N) r = true) : Calls Try.prog 6 #[.agg #[.slice A n c, .slice B m d], .agg #[.slice A' n' c', .slice B' m' d'], .int .i64 N] w (Give (.bool true) w) := by
  have o1 : overB n m = false := by simp [overB]; omega
  have o2 : overB n' m' = false := by simp [overB]; omega
  go_enter Try.func6, Try.ntmps6
  have s1 := hid hs
  have t1 := hid ht
  have s2 := hid hs'
  have t2 := hid ht'
  clear hs ht hs' ht'
  go_wp2_with fail
  refine (over_any _ _ _ _ _ _ _ _ _ ((s1.out.alloc _).alloc _) ((t1.out.alloc _).alloc _)).mono ?_
  rintro e w1 ⟨rfl, hx1⟩
  have c0_0_0 : w1.cell? ⟨w.heap.size, 0, none⟩ = some (.slice A n c) := hx1.cell (by go_simp)
  have c0_0_1 : w1.cell? ⟨w.heap.size, 1, none⟩ = some (.slice B m d) := hx1.cell (by go_simp)
  have c0_1_0 : w1.cell? ⟨w.heap.size + 1, 0, none⟩ = some (.slice A' n' c') := hx1.cell (by go_simp)
  have c0_1_1 : w1.cell? ⟨w.heap.size + 1, 1, none⟩ = some (.slice B' m' d') := hx1.cell (by go_simp)
  replace s1 := hid (((s1.out.alloc _).alloc _).ext hx1)
  replace t1 := hid (((t1.out.alloc _).alloc _).ext hx1)
  replace s2 := hid (((s2.out.alloc _).alloc _).ext hx1)
  replace t2 := hid (((t2.out.alloc _).alloc _).ext hx1)
  have hE := hid (Ext.trans (((Ext.refl w).alloc_right _).alloc_right _) hx1)
  have lt_1 : w.heap.size < w1.heap.size := World.block_lt_of_cell? w1 _ c0_0_0
  have lt_2 : w.heap.size + 1 < w1.heap.size := World.block_lt_of_cell? w1 _ c0_1_0
  clear hx1
  go_wp2_with fail
  refine (over_any _ _ _ _ _ _ _ _ _ s2.out t2.out).mono ?_
  rintro e w2 ⟨rfl, hx2⟩
  replace c0_0_0 := hx2.cell c0_0_0
  replace c0_0_1 := hx2.cell c0_0_1
  replace c0_1_0 := hx2.cell c0_1_0
  replace c0_1_1 := hx2.cell c0_1_1
  replace s1 := hid (s1.out.ext hx2)
  replace t1 := hid (t1.out.ext hx2)
  replace s2 := hid (s2.out.ext hx2)
  replace t2 := hid (t2.out.ext hx2)
  replace hE := hid (Ext.trans hE.out hx2)
  clear lt_1
  have lt_1 : w.heap.size < w2.heap.size := World.block_lt_of_cell? w2 _ c0_0_0
  clear lt_2
  have lt_2 : w.heap.size + 1 < w2.heap.size := World.block_lt_of_cell? w2 _ c0_1_0
  clear hx2
  go_wp2_with fail
  refine (Not_any _ _ _ _ _ _ _ _ N _ s1.out t1.out hn hm).mono ?_
  rintro e w3 ⟨Xp, xp, cxp, Yp, yp, cyp, rfl, rxp, ryp, hx3, -, -⟩
  replace c0_0_0 := hx3.cell c0_0_0
  replace c0_0_1 := hx3.cell c0_0_1
  replace c0_1_0 := hx3.cell c0_1_0
  replace c0_1_1 := hx3.cell c0_1_1
  replace s1 := hid (s1.out.ext hx3)
  replace t1 := hid (t1.out.ext hx3)
  replace s2 := hid (s2.out.ext hx3)
  replace t2 := hid (t2.out.ext hx3)
  replace hE := hid (Ext.trans hE.out hx3)
  clear lt_1
  have lt_1 : w.heap.size < w3.heap.size := World.block_lt_of_cell? w3 _ c0_0_0
  clear lt_2
  have lt_2 : w.heap.size + 1 < w3.heap.size := World.block_lt_of_cell? w3 _ c0_1_0
  have Sp := hid rxp
  have Tp := hid ryp
  clear hx3 rxp ryp
  go_wp2_with fail
  refine (Not_any _ _ _ _ _ _ _ _ N _ (s2.out.alloc _) (t2.out.alloc _) hn' hm').mono ?_
  rintro e w4 ⟨Xq, xq, cxq, Yq, yq, cyq, rfl, rxq, ryq, hx4, -, -⟩
  replace c0_0_0 := hx4.cell (cell_alloc c0_0_0 _)
  replace c0_0_1 := hx4.cell (cell_alloc c0_0_1 _)
  replace c0_1_0 := hx4.cell (cell_alloc c0_1_0 _)
  replace c0_1_1 := hx4.cell (cell_alloc c0_1_1 _)
  have c3_0_0 : w4.cell? ⟨w3.heap.size, 0, none⟩ = some (.slice Xp xp cxp) := hx4.cell (by go_simp)
  have c3_0_1 : w4.cell? ⟨w3.heap.size, 1, none⟩ = some (.slice Yp yp cyp) := hx4.cell (by go_simp)
  replace s1 := hid ((s1.out.alloc _).ext hx4)
  replace t1 := hid ((t1.out.alloc _).ext hx4)
  replace s2 := hid ((s2.out.alloc _).ext hx4)
  replace t2 := hid ((t2.out.alloc _).ext hx4)
  replace Sp := hid ((Sp.out.alloc _).ext hx4)
  replace Tp := hid ((Tp.out.alloc _).ext hx4)
  replace hE := hid (Ext.trans (hE.out.alloc_right _) hx4)
  clear lt_1
  have lt_1 : w.heap.size < w4.heap.size := World.block_lt_of_cell? w4 _ c0_0_0
  clear lt_2
  have lt_2 : w.heap.size + 1 < w4.heap.size := World.block_lt_of_cell? w4 _ c0_1_0
  have lt_3 : w3.heap.size < w4.heap.size := World.block_lt_of_cell? w4 _ c3_0_0
  have Sq := hid rxq
  have Tq := hid ryq
  clear hx4 rxq ryq
  go_wp2_with fail
  clear o1 o2
  refine (And_yes _ _ _ _ _ _ _ _ _ _ _ _ _ _ _ _ _ (s1.out.alloc _) (t1.out.alloc _) (s2.out.alloc _) (t2.out.alloc _) hn hm hn' hm' v1.out v2.out).mono ?_
  rintro e w5 ⟨Xa, xa, cxa, Ya, ya, cya, rfl, rxa, rya, hx5, -, -⟩
  replace c0_0_0 := hx5.cell (cell_alloc c0_0_0 _)
  replace c0_0_1 := hx5.cell (cell_alloc c0_0_1 _)
  replace c0_1_0 := hx5.cell (cell_alloc c0_1_0 _)
  replace c0_1_1 := hx5.cell (cell_alloc c0_1_1 _)
  replace c3_0_0 := hx5.cell (cell_alloc c3_0_0 _)
  replace c3_0_1 := hx5.cell (cell_alloc c3_0_1 _)
  have c4_0_0 : w5.cell? ⟨w4.heap.size, 0, none⟩ = some (.slice Xq xq cxq) := hx5.cell (by go_simp)
  have c4_0_1 : w5.cell? ⟨w4.heap.size, 1, none⟩ = some (.slice Yq yq cyq) := hx5.cell (by go_simp)
  replace s1 := hid ((s1.out.alloc _).ext hx5)
  replace t1 := hid ((t1.out.alloc _).ext hx5)
  replace s2 := hid ((s2.out.alloc _).ext hx5)
  replace t2 := hid ((t2.out.alloc _).ext hx5)
  replace Sp := hid ((Sp.out.alloc _).ext hx5)
  replace Tp := hid ((Tp.out.alloc _).ext hx5)
  replace Sq := hid ((Sq.out.alloc _).ext hx5)
  replace Tq := hid ((Tq.out.alloc _).ext hx5)
  replace hE := hid (Ext.trans (hE.out.alloc_right _) hx5)
  clear lt_1
  have lt_1 : w.heap.size < w5.heap.size := World.block_lt_of_cell? w5 _ c0_0_0
  clear lt_2
  have lt_2 : w.heap.size + 1 < w5.heap.size := World.block_lt_of_cell? w5 _ c0_1_0
  clear lt_3
  have lt_3 : w3.heap.size < w5.heap.size := World.block_lt_of_cell? w5 _ c3_0_0
  have lt_4 : w4.heap.size < w5.heap.size := World.block_lt_of_cell? w5 _ c4_0_0
  have Sa := hid rxa
  have Ta := hid rya
  clear hx5 rxa rya
  have za : xa ≤ 3000 ∧ ya ≤ 3000 := by have h1 := Sa.out.len; have h2 := Ta.out.len; have h3 := ba.out; omega
  go_wp2_with fail
  refine (Not_any _ _ _ _ _ _ _ _ N _ (Sa.out.alloc _) (Ta.out.alloc _) za.1 za.2).mono ?_
  rintro e w6 ⟨Xn, xn, cxn, Yn, yn, cyn, rfl, rxn, ryn, hx6, -, -⟩
  replace c0_0_0 := hx6.cell (cell_alloc c0_0_0 _)
  replace c0_0_1 := hx6.cell (cell_alloc c0_0_1 _)
  replace c0_1_0 := hx6.cell (cell_alloc c0_1_0 _)
  replace c0_1_1 := hx6.cell (cell_alloc c0_1_1 _)
  replace c3_0_0 := hx6.cell (cell_alloc c3_0_0 _)
  replace c3_0_1 := hx6.cell (cell_alloc c3_0_1 _)
  replace c4_0_0 := hx6.cell (cell_alloc c4_0_0 _)
  replace c4_0_1 := hx6.cell (cell_alloc c4_0_1 _)
  have c5_0_0 : w6.cell? ⟨w5.heap.size, 0, none⟩ = some (.slice Xa xa cxa) := hx6.cell (by go_simp)
  have c5_0_1 : w6.cell? ⟨w5.heap.size, 1, none⟩ = some (.slice Ya ya cya) := hx6.cell (by go_simp)
  replace s1 := hid ((s1.out.alloc _).ext hx6)
  replace t1 := hid ((t1.out.alloc _).ext hx6)
  replace s2 := hid ((s2.out.alloc _).ext hx6)
  replace t2 := hid ((t2.out.alloc _).ext hx6)
  replace Sp := hid ((Sp.out.alloc _).ext hx6)
  replace Tp := hid ((Tp.out.alloc _).ext hx6)
  replace Sq := hid ((Sq.out.alloc _).ext hx6)
  replace Tq := hid ((Tq.out.alloc _).ext hx6)
  replace Sa := hid ((Sa.out.alloc _).ext hx6)
  replace Ta := hid ((Ta.out.alloc _).ext hx6)
  replace hE := hid (Ext.trans (hE.out.alloc_right _) hx6)
  clear lt_1
  have lt_1 : w.heap.size < w6.heap.size := World.block_lt_of_cell? w6 _ c0_0_0
  clear lt_2
  have lt_2 : w.heap.size + 1 < w6.heap.size := World.block_lt_of_cell? w6 _ c0_1_0
  clear lt_3
  have lt_3 : w3.heap.size < w6.heap.size := World.block_lt_of_cell? w6 _ c3_0_0
  clear lt_4
  have lt_4 : w4.heap.size < w6.heap.size := World.block_lt_of_cell? w6 _ c4_0_0
  have lt_5 : w5.heap.size < w6.heap.size := World.block_lt_of_cell? w6 _ c5_0_0
  have Sn := hid rxn
  have Tn := hid ryn
  clear hx6 rxn ryn
  have zp : xp ≤ 3000 ∧ yp ≤ 3000 := by have h1 := Sp.out.len; have h2 := Tp.out.len; have h3 := bp.out; omega
  have zq : xq ≤ 3000 ∧ yq ≤ 3000 := by have h1 := Sq.out.len; have h2 := Tq.out.len; have h3 := bq.out; omega
  go_wp2_with fail
  refine (Or_yes _ _ _ _ _ _ _ _ _ _ _ _ _ _ _ _ _ (Sp.out.alloc _) (Tp.out.alloc _) (Sq.out.alloc _) (Tq.out.alloc _) zp.1 zp.2 zq.1 zq.2 v3.out v4.out).mono ?_
  rintro e w7 ⟨Xo, xo, cxo, Yo, yo, cyo, rfl, rxo, ryo, hx7, -, -⟩
  replace c0_0_0 := hx7.cell (cell_alloc c0_0_0 _)
  replace c0_0_1 := hx7.cell (cell_alloc c0_0_1 _)
  replace c0_1_0 := hx7.cell (cell_alloc c0_1_0 _)
  replace c0_1_1 := hx7.cell (cell_alloc c0_1_1 _)
  replace c3_0_0 := hx7.cell (cell_alloc c3_0_0 _)
  replace c3_0_1 := hx7.cell (cell_alloc c3_0_1 _)
  replace c4_0_0 := hx7.cell (cell_alloc c4_0_0 _)
  replace c4_0_1 := hx7.cell (cell_alloc c4_0_1 _)
  replace c5_0_0 := hx7.cell (cell_alloc c5_0_0 _)
  replace c5_0_1 := hx7.cell (cell_alloc c5_0_1 _)
  have c6_0_0 : w7.cell? ⟨w6.heap.size, 0, none⟩ = some (.slice Xn xn cxn) := hx7.cell (by go_simp)
  have c6_0_1 : w7.cell? ⟨w6.heap.size, 1, none⟩ = some (.slice Yn yn cyn) := hx7.cell (by go_simp)
  replace s1 := hid ((s1.out.alloc _).ext hx7)
  replace t1 := hid ((t1.out.alloc _).ext hx7)
  replace s2 := hid ((s2.out.alloc _).ext hx7)
  replace t2 := hid ((t2.out.alloc _).ext hx7)
  replace Sp := hid ((Sp.out.alloc _).ext hx7)
  replace Tp := hid ((Tp.out.alloc _).ext hx7)
  replace Sq := hid ((Sq.out.alloc _).ext hx7)
  replace Tq := hid ((Tq.out.alloc _).ext hx7)
  replace Sa := hid ((Sa.out.alloc _).ext hx7)
  replace Ta := hid ((Ta.out.alloc _).ext hx7)
  replace Sn := hid ((Sn.out.alloc _).ext hx7)
  replace Tn := hid ((Tn.out.alloc _).ext hx7)
  replace hE := hid (Ext.trans (hE.out.alloc_right _) hx7)
  clear lt_1
  have lt_1 : w.heap.size < w7.heap.size := World.block_lt_of_cell? w7 _ c0_0_0
  clear lt_2
  have lt_2 : w.heap.size + 1 < w7.heap.size := World.block_lt_of_cell? w7 _ c0_1_0
  clear lt_3
  have lt_3 : w3.heap.size < w7.heap.size := World.block_lt_of_cell? w7 _ c3_0_0
  clear lt_4
  have lt_4 : w4.heap.size < w7.heap.size := World.block_lt_of_cell? w7 _ c4_0_0
  clear lt_5
  have lt_5 : w5.heap.size < w7.heap.size := World.block_lt_of_cell? w7 _ c5_0_0
  have lt_6 : w6.heap.size < w7.heap.size := World.block_lt_of_cell? w7 _ c6_0_0
  have So := hid rxo
  have To := hid ryo
  clear hx7 rxo ryo
  go_wp2_with fail
  refine (Not_any _ _ _ _ _ _ _ _ N _ (Sp.out.alloc _) (Tp.out.alloc _) zp.1 zp.2).mono ?_
  rintro e w8 ⟨Xb, xb, cxb, Yb, yb, cyb, rfl, rxb, ryb, hx8, -, -⟩
  replace c0_0_0 := hx8.cell (cell_alloc c0_0_0 _)
  replace c0_0_1 := hx8.cell (cell_alloc c0_0_1 _)
  replace c0_1_0 := hx8.cell (cell_alloc c0_1_0 _)
  replace c0_1_1 := hx8.cell (cell_alloc c0_1_1 _)
  replace c3_0_0 := hx8.cell (cell_alloc c3_0_0 _)
  replace c3_0_1 := hx8.cell (cell_alloc c3_0_1 _)
  replace c4_0_0 := hx8.cell (cell_alloc c4_0_0 _)
  replace c4_0_1 := hx8.cell (cell_alloc c4_0_1 _)
  replace c5_0_0 := hx8.cell (cell_alloc c5_0_0 _)
  replace c5_0_1 := hx8.cell (cell_alloc c5_0_1 _)
  replace c6_0_0 := hx8.cell (cell_alloc c6_0_0 _)
  replace c6_0_1 := hx8.cell (cell_alloc c6_0_1 _)
  have c7_0_0 : w8.cell? ⟨w7.heap.size, 0, none⟩ = some (.slice Xo xo cxo) := hx8.cell (by go_simp)
  have c7_0_1 : w8.cell? ⟨w7.heap.size, 1, none⟩ = some (.slice Yo yo cyo) := hx8.cell (by go_simp)
  replace s1 := hid ((s1.out.alloc _).ext hx8)
  replace t1 := hid ((t1.out.alloc _).ext hx8)
  replace s2 := hid ((s2.out.alloc _).ext hx8)
  replace t2 := hid ((t2.out.alloc _).ext hx8)
  replace Sp := hid ((Sp.out.alloc _).ext hx8)
  replace Tp := hid ((Tp.out.alloc _).ext hx8)
  replace Sq := hid ((Sq.out.alloc _).ext hx8)
  replace Tq := hid ((Tq.out.alloc _).ext hx8)
  replace Sa := hid ((Sa.out.alloc _).ext hx8)
  replace Ta := hid ((Ta.out.alloc _).ext hx8)
  replace Sn := hid ((Sn.out.alloc _).ext hx8)
  replace Tn := hid ((Tn.out.alloc _).ext hx8)
  replace So := hid ((So.out.alloc _).ext hx8)
  replace To := hid ((To.out.alloc _).ext hx8)
  replace hE := hid (Ext.trans (hE.out.alloc_right _) hx8)
  clear lt_1
  have lt_1 : w.heap.size < w8.heap.size := World.block_lt_of_cell? w8 _ c0_0_0
  clear lt_2
  have lt_2 : w.heap.size + 1 < w8.heap.size := World.block_lt_of_cell? w8 _ c0_1_0
  clear lt_3
  have lt_3 : w3.heap.size < w8.heap.size := World.block_lt_of_cell? w8 _ c3_0_0
  clear lt_4
  have lt_4 : w4.heap.size < w8.heap.size := World.block_lt_of_cell? w8 _ c4_0_0
  clear lt_5
  have lt_5 : w5.heap.size < w8.heap.size := World.block_lt_of_cell? w8 _ c5_0_0
  clear lt_6
  have lt_6 : w6.heap.size < w8.heap.size := World.block_lt_of_cell? w8 _ c6_0_0
  have lt_7 : w7.heap.size < w8.heap.size := World.block_lt_of_cell? w8 _ c7_0_0
  have Sb := hid rxb
  have Tb := hid ryb
  clear hx8 rxb ryb
  go_wp2_with fail
  refine (samePair_any _ _ _ _ _ _ _ _ _ _ _ _ _ _ _ _ _ (Sn.out.alloc _) (Tn.out.alloc _) (So.out.alloc _) (To.out.alloc _)).mono ?_
  rintro e w9 ⟨rfl, hx9⟩
  replace c0_0_0 := hx9.cell (cell_alloc c0_0_0 _)
  replace c0_0_1 := hx9.cell (cell_alloc c0_0_1 _)
  replace c0_1_0 := hx9.cell (cell_alloc c0_1_0 _)
  replace c0_1_1 := hx9.cell (cell_alloc c0_1_1 _)
  replace c3_0_0 := hx9.cell (cell_alloc c3_0_0 _)
  replace c3_0_1 := hx9.cell (cell_alloc c3_0_1 _)
  replace c4_0_0 := hx9.cell (cell_alloc c4_0_0 _)
  replace c4_0_1 := hx9.cell (cell_alloc c4_0_1 _)
  replace c5_0_0 := hx9.cell (cell_alloc c5_0_0 _)
  replace c5_0_1 := hx9.cell (cell_alloc c5_0_1 _)
  replace c6_0_0 := hx9.cell (cell_alloc c6_0_0 _)
  replace c6_0_1 := hx9.cell (cell_alloc c6_0_1 _)
  replace c7_0_0 := hx9.cell (cell_alloc c7_0_0 _)
  replace c7_0_1 := hx9.cell (cell_alloc c7_0_1 _)
  have c8_0_0 : w9.cell? ⟨w8.heap.size, 0, none⟩ = some (.slice Xb xb cxb) := hx9.cell (by go_simp)
  have c8_0_1 : w9.cell? ⟨w8.heap.size, 1, none⟩ = some (.slice Yb yb cyb) := hx9.cell (by go_simp)
  replace s1 := hid ((s1.out.alloc _).ext hx9)
  replace t1 := hid ((t1.out.alloc _).ext hx9)
  replace s2 := hid ((s2.out.alloc _).ext hx9)
  replace t2 := hid ((t2.out.alloc _).ext hx9)
  replace Sp := hid ((Sp.out.alloc _).ext hx9)
  replace Tp := hid ((Tp.out.alloc _).ext hx9)
  replace Sq := hid ((Sq.out.alloc _).ext hx9)
  replace Tq := hid ((Tq.out.alloc _).ext hx9)
  replace Sa := hid ((Sa.out.alloc _).ext hx9)
  replace Ta := hid ((Ta.out.alloc _).ext hx9)
  replace Sn := hid ((Sn.out.alloc _).ext hx9)
  replace Tn := hid ((Tn.out.alloc _).ext hx9)
  replace So := hid ((So.out.alloc _).ext hx9)
  replace To := hid ((To.out.alloc _).ext hx9)
  replace Sb := hid ((Sb.out.alloc _).ext hx9)
  replace Tb := hid ((Tb.out.alloc _).ext hx9)
  replace hE := hid (Ext.trans (hE.out.alloc_right _) hx9)
  clear lt_1
  have lt_1 : w.heap.size < w9.heap.size := World.block_lt_of_cell? w9 _ c0_0_0
  clear lt_2
  have lt_2 : w.heap.size + 1 < w9.heap.size := World.block_lt_of_cell? w9 _ c0_1_0
  clear lt_3
  have lt_3 : w3.heap.size < w9.heap.size := World.block_lt_of_cell? w9 _ c3_0_0
  clear lt_4
  have lt_4 : w4.heap.size < w9.heap.size := World.block_lt_of_cell? w9 _ c4_0_0
  clear lt_5
  have lt_5 : w5.heap.size < w9.heap.size := World.block_lt_of_cell? w9 _ c5_0_0
  clear lt_6
  have lt_6 : w6.heap.size < w9.heap.size := World.block_lt_of_cell? w9 _ c6_0_0
  clear lt_7
  have lt_7 : w7.heap.size < w9.heap.size := World.block_lt_of_cell? w9 _ c7_0_0
  have lt_8 : w8.heap.size < w9.heap.size := World.block_lt_of_cell? w9 _ c8_0_0
  clear hx9
  go_wp2_with fail
  refine (samePair_any _ _ _ _ _ _ _ _ _ _ _ _ _ _ _ _ _ Sb.out Tb.out s1.out t1.out).mono ?_
  rintro e w10 ⟨rfl, hx10⟩
  replace c0_0_0 := hx10.cell c0_0_0
  replace c0_0_1 := hx10.cell c0_0_1
  replace c0_1_0 := hx10.cell c0_1_0
  replace c0_1_1 := hx10.cell c0_1_1
  replace c3_0_0 := hx10.cell c3_0_0
  replace c3_0_1 := hx10.cell c3_0_1
  replace c4_0_0 := hx10.cell c4_0_0
  replace c4_0_1 := hx10.cell c4_0_1
  replace c5_0_0 := hx10.cell c5_0_0
  replace c5_0_1 := hx10.cell c5_0_1
  replace c6_0_0 := hx10.cell c6_0_0
  replace c6_0_1 := hx10.cell c6_0_1
  replace c7_0_0 := hx10.cell c7_0_0
  replace c7_0_1 := hx10.cell c7_0_1
  replace c8_0_0 := hx10.cell c8_0_0
  replace c8_0_1 := hx10.cell c8_0_1
  replace s1 := hid (s1.out.ext hx10)
  replace t1 := hid (t1.out.ext hx10)
  replace s2 := hid (s2.out.ext hx10)
  replace t2 := hid (t2.out.ext hx10)
  replace Sp := hid (Sp.out.ext hx10)
  replace Tp := hid (Tp.out.ext hx10)
  replace Sq := hid (Sq.out.ext hx10)
  replace Tq := hid (Tq.out.ext hx10)
  replace Sa := hid (Sa.out.ext hx10)
  replace Ta := hid (Ta.out.ext hx10)
  replace Sn := hid (Sn.out.ext hx10)
  replace Tn := hid (Tn.out.ext hx10)
  replace So := hid (So.out.ext hx10)
  replace To := hid (To.out.ext hx10)
  replace Sb := hid (Sb.out.ext hx10)
  replace Tb := hid (Tb.out.ext hx10)
  replace hE := hid (Ext.trans hE.out hx10)
  clear lt_1
  have lt_1 : w.heap.size < w10.heap.size := World.block_lt_of_cell? w10 _ c0_0_0
  clear lt_2
  have lt_2 : w.heap.size + 1 < w10.heap.size := World.block_lt_of_cell? w10 _ c0_1_0
  clear lt_3
  have lt_3 : w3.heap.size < w10.heap.size := World.block_lt_of_cell? w10 _ c3_0_0
  clear lt_4
  have lt_4 : w4.heap.size < w10.heap.size := World.block_lt_of_cell? w10 _ c4_0_0
  clear lt_5
  have lt_5 : w5.heap.size < w10.heap.size := World.block_lt_of_cell? w10 _ c5_0_0
  clear lt_6
  have lt_6 : w6.heap.size < w10.heap.size := World.block_lt_of_cell? w10 _ c6_0_0
  clear lt_7
  have lt_7 : w7.heap.size < w10.heap.size := World.block_lt_of_cell? w10 _ c7_0_0
  clear lt_8
  have lt_8 : w8.heap.size < w10.heap.size := World.block_lt_of_cell? w10 _ c8_0_0
  clear hx10
  go_wp2_with fail
  refine (known_any _).mono ?_
  rintro e w11 ⟨rfl, hx11⟩
  replace c0_0_0 := hx11.cell c0_0_0
  replace c0_0_1 := hx11.cell c0_0_1
  replace c0_1_0 := hx11.cell c0_1_0
  replace c0_1_1 := hx11.cell c0_1_1
  replace c3_0_0 := hx11.cell c3_0_0
  replace c3_0_1 := hx11.cell c3_0_1
  replace c4_0_0 := hx11.cell c4_0_0
  replace c4_0_1 := hx11.cell c4_0_1
  replace c5_0_0 := hx11.cell c5_0_0
  replace c5_0_1 := hx11.cell c5_0_1
  replace c6_0_0 := hx11.cell c6_0_0
  replace c6_0_1 := hx11.cell c6_0_1
  replace c7_0_0 := hx11.cell c7_0_0
  replace c7_0_1 := hx11.cell c7_0_1
  replace c8_0_0 := hx11.cell c8_0_0
  replace c8_0_1 := hx11.cell c8_0_1
  replace s1 := hid (s1.out.ext hx11)
  replace t1 := hid (t1.out.ext hx11)
  replace s2 := hid (s2.out.ext hx11)
  replace t2 := hid (t2.out.ext hx11)
  replace Sp := hid (Sp.out.ext hx11)
  replace Tp := hid (Tp.out.ext hx11)
  replace Sq := hid (Sq.out.ext hx11)
  replace Tq := hid (Tq.out.ext hx11)
  replace Sa := hid (Sa.out.ext hx11)
  replace Ta := hid (Ta.out.ext hx11)
  replace Sn := hid (Sn.out.ext hx11)
  replace Tn := hid (Tn.out.ext hx11)
  replace So := hid (So.out.ext hx11)
  replace To := hid (To.out.ext hx11)
  replace Sb := hid (Sb.out.ext hx11)
  replace Tb := hid (Tb.out.ext hx11)
  replace hE := hid (Ext.trans hE.out hx11)
  clear lt_1
  have lt_1 : w.heap.size < w11.heap.size := World.block_lt_of_cell? w11 _ c0_0_0
  clear lt_2
  have lt_2 : w.heap.size + 1 < w11.heap.size := World.block_lt_of_cell? w11 _ c0_1_0
  clear lt_3
  have lt_3 : w3.heap.size < w11.heap.size := World.block_lt_of_cell? w11 _ c3_0_0
  clear lt_4
  have lt_4 : w4.heap.size < w11.heap.size := World.block_lt_of_cell? w11 _ c4_0_0
  clear lt_5
  have lt_5 : w5.heap.size < w11.heap.size := World.block_lt_of_cell? w11 _ c5_0_0
  clear lt_6
  have lt_6 : w6.heap.size < w11.heap.size := World.block_lt_of_cell? w11 _ c6_0_0
  clear lt_7
  have lt_7 : w7.heap.size < w11.heap.size := World.block_lt_of_cell? w11 _ c7_0_0
  clear lt_8
  have lt_8 : w8.heap.size < w11.heap.size := World.block_lt_of_cell? w11 _ c8_0_0
  clear hx11
  go_wp2
  go_ret
  exact ⟨rfl, hE.out⟩

theorem morgan_law (A : Option Addr) (n c : Nat) (l : List Int) (B : Option Addr) (m d : Nat) (r : List Int) (A' : Option Addr) (n' c' : Nat) (l' : List Int) (B' : Option Addr) (m' d' : Nat) (r' : List Int) (N : Int) (w : World) (hs : RdI w A n c l) (ht : RdI w B m d r) (hs' : RdI w A' n' c' l') (ht' : RdI w B' m' d' r') (_hN : (Lit.int .i64 N).wf = true) : Calls Try.prog 6 #[.agg #[.slice A n c, .slice B m d], .agg #[.slice A' n' c', .slice B' m' d'], .int .i64 N] w (Give (.bool true) w) := by
  by_cases o1 : overB n m = true
  · exact morgan_over1 _ _ _ _ _ _ _ _ _ _ _ _ _ _ _ _ _ _ hs ht hs' ht' o1
  · replace o1 : overB n m = false := by simpa using o1
    by_cases o2 : overB n' m' = true
    · exact morgan_over2 _ _ _ _ _ _ _ _ _ _ _ _ _ _ _ _ _ _ hs ht hs' ht' o1 o2
    · have a1 : n ≤ 3000 ∧ m ≤ 3000 := by simp [overB] at o1; omega
      have a2 : n' ≤ 3000 ∧ m' ≤ 3000 := by simp [overB] at o2; omega
      by_cases h1 : notOk l r N = true
      · have e1 : (notE l r N != 0) = false := by unfold notE; rw [h1]; rfl
        by_cases h2 : notOk l' r' N = true
        · have e2 : (notE l' r' N != 0) = false := by unfold notE; rw [h2]; rfl
          obtain ⟨k, rfl, F⟩ := not_facts h1
          obtain ⟨k', hk', F'⟩ := not_facts h2
          obtain rfl : k = k' := by omega
          exact morgan_main _ _ _ _ _ _ _ _ _ _ _ _ _ _ _ _ _ _ hs ht hs' ht' a1.1 a1.2 a2.1 a2.2 e1 e2 F.v F'.v F.vn F'.vn (and_len F F') F.ln F'.ln (morgan1 F F') (morgan2 F F') F.back1 F.back2
        · have e2 : (notE l' r' N != 0) = true := by unfold notE; simp [h2, errOf]
          exact morgan_no2 _ _ _ _ _ _ _ _ _ _ _ _ _ _ _ _ _ _ hs ht hs' ht' a1.1 a1.2 a2.1 a2.2 e1 e2
      · have e1 : (notE l r N != 0) = true := by unfold notE; simp [h1, errOf]
        exact morgan_no _ _ _ _ _ _ _ _ _ _ _ _ _ _ _ _ _ _ hs ht hs' ht' a1.1 a1.2 a2.1 a2.2 e1
end Go.Proofs.Ytffcaoicokookaa
