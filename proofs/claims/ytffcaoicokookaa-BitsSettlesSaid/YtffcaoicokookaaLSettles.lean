import Derived.Test.YtffcaoicokookaaT20
namespace Go.Proofs.Ytffcaoicokookaa
open Go.RowKit
attribute [local go_sem ↓] Go.wp_at_zero Go.wp_at_succ
set_option linter.unusedVariables false

set_option maxRecDepth 100000 in
set_option maxHeartbeats 2000000 in
theorem settles_over1 (A : Option Addr) (n c : Nat) (l : List Int) (B : Option Addr) (m d : Nat) (r : List Int) (Y : Option Addr) (p cp : Nat) (y : List Int) (w : World) (hs : RdI w A n c l) (ht : RdI w B m d r) (hy : RdI w Y p cp y) (h1 : overB n m = true) : Calls Try.prog 9 #[.agg #[.slice A n c, .slice B m d], .slice Y p cp] w (Give (.bool true) w) := by
  have s3 := hid hy
  have hmy := hy.max
  go_enter Try.func9, Try.ntmps9
  have s1 := hid hs
  have t1 := hid ht
  clear hs ht
  clear hy
  go_wp2_with fail
  refine (over_any _ _ _ _ _ _ _ _ _ (s1.out.alloc _) (t1.out.alloc _)).mono ?_
  rintro e w1 ⟨rfl, hx1⟩
  have c0_0_0 : w1.cell? ⟨w.heap.size, 0, none⟩ = some (.slice A n c) := hx1.cell (by go_simp)
  have c0_0_1 : w1.cell? ⟨w.heap.size, 1, none⟩ = some (.slice B m d) := hx1.cell (by go_simp)
  replace s1 := hid ((s1.out.alloc _).ext hx1)
  replace t1 := hid ((t1.out.alloc _).ext hx1)
  replace s3 := hid ((s3.out.alloc _).ext hx1)
  have hE := hid (Ext.trans ((Ext.refl w).alloc_right _) hx1)
  have lt_1 : w.heap.size < w1.heap.size := World.block_lt_of_cell? w1 _ c0_0_0
  clear hx1
  go_wp2_with fail
  refine (known_any _).mono ?_
  rintro e w2 ⟨rfl, hx2⟩
  replace c0_0_0 := hx2.cell c0_0_0
  replace c0_0_1 := hx2.cell c0_0_1
  replace s1 := hid (s1.out.ext hx2)
  replace t1 := hid (t1.out.ext hx2)
  replace s3 := hid (s3.out.ext hx2)
  replace hE := hid (Ext.trans hE.out hx2)
  clear lt_1
  have lt_1 : w.heap.size < w2.heap.size := World.block_lt_of_cell? w2 _ c0_0_0
  clear hx2
  go_wp2
  go_ret
  exact ⟨rfl, hE.out⟩

set_option maxRecDepth 100000 in
set_option maxHeartbeats 2000000 in
theorem settles_over2 (A : Option Addr) (n c : Nat) (l : List Int) (B : Option Addr) (m d : Nat) (r : List Int) (Y : Option Addr) (p cp : Nat) (y : List Int) (w : World) (hs : RdI w A n c l) (ht : RdI w B m d r) (hy : RdI w Y p cp y) (h1 : overB n m = false) (h2 : 3000 < p) : Calls Try.prog 9 #[.agg #[.slice A n c, .slice B m d], .slice Y p cp] w (Give (.bool true) w) := by
  have e1 : decide ((3000 : Int) < (p : Int)) = true := by simp; omega
  have s3 := hid hy
  have hmy := hy.max
  go_enter Try.func9, Try.ntmps9
  have s1 := hid hs
  have t1 := hid ht
  clear hs ht
  clear hy
  go_wp2_with fail
  refine (over_any _ _ _ _ _ _ _ _ _ (s1.out.alloc _) (t1.out.alloc _)).mono ?_
  rintro e w1 ⟨rfl, hx1⟩
  have c0_0_0 : w1.cell? ⟨w.heap.size, 0, none⟩ = some (.slice A n c) := hx1.cell (by go_simp)
  have c0_0_1 : w1.cell? ⟨w.heap.size, 1, none⟩ = some (.slice B m d) := hx1.cell (by go_simp)
  replace s1 := hid ((s1.out.alloc _).ext hx1)
  replace t1 := hid ((t1.out.alloc _).ext hx1)
  replace s3 := hid ((s3.out.alloc _).ext hx1)
  have hE := hid (Ext.trans ((Ext.refl w).alloc_right _) hx1)
  have lt_1 : w.heap.size < w1.heap.size := World.block_lt_of_cell? w1 _ c0_0_0
  clear hx1
  go_wp2_with fail
  refine (known_any _).mono ?_
  rintro e w2 ⟨rfl, hx2⟩
  replace c0_0_0 := hx2.cell c0_0_0
  replace c0_0_1 := hx2.cell c0_0_1
  replace s1 := hid (s1.out.ext hx2)
  replace t1 := hid (t1.out.ext hx2)
  replace s3 := hid (s3.out.ext hx2)
  replace hE := hid (Ext.trans hE.out hx2)
  clear lt_1
  have lt_1 : w.heap.size < w2.heap.size := World.block_lt_of_cell? w2 _ c0_0_0
  clear hx2
  go_wp2
  go_ret
  exact ⟨rfl, hE.out⟩

set_option maxRecDepth 100000 in
set_option maxHeartbeats 2000000 in
theorem settles_main (A : Option Addr) (n c : Nat) (l : List Int) (B : Option Addr) (m d : Nat) (r : List Int) (Y : Option Addr) (p cp : Nat) (y : List Int) (w : World) (hs : RdI w A n c l) (ht : RdI w B m d r) (hy : RdI w Y p cp y) (hn : n ≤ 3000) (hm : m ≤ 3000) (hp : p ≤ 3000) (k1 : sameS (setA l r y) (rsetA l r y) = true) (k2 : (setE l r y == rsetE l r y) = true) (k3 : sameS (doubtA l r) (rdoubtA l r) = true) (k4 : (doubtE l r == rdoubtE l r) = true) (k5 : sameS (knownA y) (knownA y) = true) : Calls Try.prog 9 #[.agg #[.slice A n c, .slice B m d], .slice Y p cp] w (Give (.bool true) w) := by
  have o1 : overB n m = false := by simp [overB]; omega
  have e1 : decide ((3000 : Int) < (p : Int)) = false := by simp; omega
  have s3 := hid hy
  have hmy := hy.max
  go_enter Try.func9, Try.ntmps9
  have s1 := hid hs
  have t1 := hid ht
  clear hs ht
  clear hy
  go_wp2_with fail
  refine (over_any _ _ _ _ _ _ _ _ _ (s1.out.alloc _) (t1.out.alloc _)).mono ?_
  rintro e w1 ⟨rfl, hx1⟩
  have c0_0_0 : w1.cell? ⟨w.heap.size, 0, none⟩ = some (.slice A n c) := hx1.cell (by go_simp)
  have c0_0_1 : w1.cell? ⟨w.heap.size, 1, none⟩ = some (.slice B m d) := hx1.cell (by go_simp)
  replace s1 := hid ((s1.out.alloc _).ext hx1)
  replace t1 := hid ((t1.out.alloc _).ext hx1)
  replace s3 := hid ((s3.out.alloc _).ext hx1)
  have hE := hid (Ext.trans ((Ext.refl w).alloc_right _) hx1)
  have lt_1 : w.heap.size < w1.heap.size := World.block_lt_of_cell? w1 _ c0_0_0
  clear hx1
  go_wp2_with fail
  refine (Settle_any _ _ _ _ _ _ _ _ _ _ _ _ _ s1.out t1.out s3.out hn hm hp).mono ?_
  rintro e w2 ⟨Xp, xp, cxp, Yp, yp, cyp, rfl, rxp, ryp, hx2, -, -⟩
  replace c0_0_0 := hx2.cell c0_0_0
  replace c0_0_1 := hx2.cell c0_0_1
  replace s1 := hid (s1.out.ext hx2)
  replace t1 := hid (t1.out.ext hx2)
  replace s3 := hid (s3.out.ext hx2)
  replace hE := hid (Ext.trans hE.out hx2)
  clear lt_1
  have lt_1 : w.heap.size < w2.heap.size := World.block_lt_of_cell? w2 _ c0_0_0
  have Sp := hid rxp
  have Tp := hid ryp
  clear hx2 rxp ryp
  go_wp2_with fail
  refine (rSettle_any _ _ _ _ _ _ _ _ _ _ _ _ _ (s1.out.alloc _) (t1.out.alloc _) (s3.out.alloc _) hn hm hp).mono ?_
  rintro e w3 ⟨Xr, xr, cxr, Yr, yr, cyr, rfl, rxr, ryr, hx3, -, -⟩
  replace c0_0_0 := hx3.cell (cell_alloc c0_0_0 _)
  replace c0_0_1 := hx3.cell (cell_alloc c0_0_1 _)
  have c2_0_0 : w3.cell? ⟨w2.heap.size, 0, none⟩ = some (.slice Xp xp cxp) := hx3.cell (by go_simp)
  have c2_0_1 : w3.cell? ⟨w2.heap.size, 1, none⟩ = some (.slice Yp yp cyp) := hx3.cell (by go_simp)
  replace s1 := hid ((s1.out.alloc _).ext hx3)
  replace t1 := hid ((t1.out.alloc _).ext hx3)
  replace s3 := hid ((s3.out.alloc _).ext hx3)
  replace Sp := hid ((Sp.out.alloc _).ext hx3)
  replace Tp := hid ((Tp.out.alloc _).ext hx3)
  replace hE := hid (Ext.trans (hE.out.alloc_right _) hx3)
  clear lt_1
  have lt_1 : w.heap.size < w3.heap.size := World.block_lt_of_cell? w3 _ c0_0_0
  have lt_2 : w2.heap.size < w3.heap.size := World.block_lt_of_cell? w3 _ c2_0_0
  have Sr := hid rxr
  have Tr := hid ryr
  clear hx3 rxr ryr
  go_wp2_with fail
  refine (Doubt_any _ _ _ _ _ _ _ _ _ (s1.out.alloc _) (t1.out.alloc _) hn hm).mono ?_
  rintro e w4 ⟨Xd, xd, cxd, rfl, rxd, hx4, -⟩
  replace c0_0_0 := hx4.cell (cell_alloc c0_0_0 _)
  replace c0_0_1 := hx4.cell (cell_alloc c0_0_1 _)
  replace c2_0_0 := hx4.cell (cell_alloc c2_0_0 _)
  replace c2_0_1 := hx4.cell (cell_alloc c2_0_1 _)
  have c3_0_0 : w4.cell? ⟨w3.heap.size, 0, none⟩ = some (.slice Xr xr cxr) := hx4.cell (by go_simp)
  have c3_0_1 : w4.cell? ⟨w3.heap.size, 1, none⟩ = some (.slice Yr yr cyr) := hx4.cell (by go_simp)
  replace s1 := hid ((s1.out.alloc _).ext hx4)
  replace t1 := hid ((t1.out.alloc _).ext hx4)
  replace s3 := hid ((s3.out.alloc _).ext hx4)
  replace Sp := hid ((Sp.out.alloc _).ext hx4)
  replace Tp := hid ((Tp.out.alloc _).ext hx4)
  replace Sr := hid ((Sr.out.alloc _).ext hx4)
  replace Tr := hid ((Tr.out.alloc _).ext hx4)
  replace hE := hid (Ext.trans (hE.out.alloc_right _) hx4)
  clear lt_1
  have lt_1 : w.heap.size < w4.heap.size := World.block_lt_of_cell? w4 _ c0_0_0
  clear lt_2
  have lt_2 : w2.heap.size < w4.heap.size := World.block_lt_of_cell? w4 _ c2_0_0
  have lt_3 : w3.heap.size < w4.heap.size := World.block_lt_of_cell? w4 _ c3_0_0
  have Sd := hid rxd
  clear hx4 rxd
  go_wp2_with fail
  refine (rDoubt_any _ _ _ _ _ _ _ _ _ s1.out t1.out hn hm).mono ?_
  rintro e w5 ⟨Xe, xe, cxe, rfl, rxe, hx5, -⟩
  replace c0_0_0 := hx5.cell c0_0_0
  replace c0_0_1 := hx5.cell c0_0_1
  replace c2_0_0 := hx5.cell c2_0_0
  replace c2_0_1 := hx5.cell c2_0_1
  replace c3_0_0 := hx5.cell c3_0_0
  replace c3_0_1 := hx5.cell c3_0_1
  replace s1 := hid (s1.out.ext hx5)
  replace t1 := hid (t1.out.ext hx5)
  replace s3 := hid (s3.out.ext hx5)
  replace Sp := hid (Sp.out.ext hx5)
  replace Tp := hid (Tp.out.ext hx5)
  replace Sr := hid (Sr.out.ext hx5)
  replace Tr := hid (Tr.out.ext hx5)
  replace Sd := hid (Sd.out.ext hx5)
  replace hE := hid (Ext.trans hE.out hx5)
  clear lt_1
  have lt_1 : w.heap.size < w5.heap.size := World.block_lt_of_cell? w5 _ c0_0_0
  clear lt_2
  have lt_2 : w2.heap.size < w5.heap.size := World.block_lt_of_cell? w5 _ c2_0_0
  clear lt_3
  have lt_3 : w3.heap.size < w5.heap.size := World.block_lt_of_cell? w5 _ c3_0_0
  have Se := hid rxe
  clear hx5 rxe
  go_wp2_with fail
  refine (Known_any _ _ _ _ _ s3.out (by omega)).mono ?_
  rintro e w6 ⟨Xa, xa, cxa, Ya, ya, cya, rfl, rxa, rya, hx6, -, -⟩
  replace c0_0_0 := hx6.cell c0_0_0
  replace c0_0_1 := hx6.cell c0_0_1
  replace c2_0_0 := hx6.cell c2_0_0
  replace c2_0_1 := hx6.cell c2_0_1
  replace c3_0_0 := hx6.cell c3_0_0
  replace c3_0_1 := hx6.cell c3_0_1
  replace s1 := hid (s1.out.ext hx6)
  replace t1 := hid (t1.out.ext hx6)
  replace s3 := hid (s3.out.ext hx6)
  replace Sp := hid (Sp.out.ext hx6)
  replace Tp := hid (Tp.out.ext hx6)
  replace Sr := hid (Sr.out.ext hx6)
  replace Tr := hid (Tr.out.ext hx6)
  replace Sd := hid (Sd.out.ext hx6)
  replace Se := hid (Se.out.ext hx6)
  replace hE := hid (Ext.trans hE.out hx6)
  clear lt_1
  have lt_1 : w.heap.size < w6.heap.size := World.block_lt_of_cell? w6 _ c0_0_0
  clear lt_2
  have lt_2 : w2.heap.size < w6.heap.size := World.block_lt_of_cell? w6 _ c2_0_0
  clear lt_3
  have lt_3 : w3.heap.size < w6.heap.size := World.block_lt_of_cell? w6 _ c3_0_0
  have Sa := hid rxa
  have Ta := hid rya
  clear hx6 rxa rya
  go_wp2_with fail
  refine (rKnown_any _ _ _ _ _ (s3.out.alloc _) (by omega)).mono ?_
  rintro e w7 ⟨Xb, xb, cxb, Yb, yb, cyb, rfl, rxb, ryb, hx7, -, -⟩
  replace c0_0_0 := hx7.cell (cell_alloc c0_0_0 _)
  replace c0_0_1 := hx7.cell (cell_alloc c0_0_1 _)
  replace c2_0_0 := hx7.cell (cell_alloc c2_0_0 _)
  replace c2_0_1 := hx7.cell (cell_alloc c2_0_1 _)
  replace c3_0_0 := hx7.cell (cell_alloc c3_0_0 _)
  replace c3_0_1 := hx7.cell (cell_alloc c3_0_1 _)
  have c6_0_0 : w7.cell? ⟨w6.heap.size, 0, none⟩ = some (.slice Xa xa cxa) := hx7.cell (by go_simp)
  have c6_0_1 : w7.cell? ⟨w6.heap.size, 1, none⟩ = some (.slice Ya ya cya) := hx7.cell (by go_simp)
  replace s1 := hid ((s1.out.alloc _).ext hx7)
  replace t1 := hid ((t1.out.alloc _).ext hx7)
  replace s3 := hid ((s3.out.alloc _).ext hx7)
  replace Sp := hid ((Sp.out.alloc _).ext hx7)
  replace Tp := hid ((Tp.out.alloc _).ext hx7)
  replace Sr := hid ((Sr.out.alloc _).ext hx7)
  replace Tr := hid ((Tr.out.alloc _).ext hx7)
  replace Sd := hid ((Sd.out.alloc _).ext hx7)
  replace Se := hid ((Se.out.alloc _).ext hx7)
  replace Sa := hid ((Sa.out.alloc _).ext hx7)
  replace Ta := hid ((Ta.out.alloc _).ext hx7)
  replace hE := hid (Ext.trans (hE.out.alloc_right _) hx7)
  clear lt_1
  have lt_1 : w.heap.size < w7.heap.size := World.block_lt_of_cell? w7 _ c0_0_0
  clear lt_2
  have lt_2 : w2.heap.size < w7.heap.size := World.block_lt_of_cell? w7 _ c2_0_0
  clear lt_3
  have lt_3 : w3.heap.size < w7.heap.size := World.block_lt_of_cell? w7 _ c3_0_0
  have lt_4 : w6.heap.size < w7.heap.size := World.block_lt_of_cell? w7 _ c6_0_0
  have Sb := hid rxb
  have Tb := hid ryb
  clear hx7 rxb ryb
  go_wp2_with fail
  refine (samePair_any _ _ _ _ _ _ _ _ _ _ _ _ _ _ _ _ _ (Sp.out.alloc _) (Tp.out.alloc _) (Sr.out.alloc _) (Tr.out.alloc _)).mono ?_
  rintro e w8 ⟨rfl, hx8⟩
  replace c0_0_0 := hx8.cell (cell_alloc c0_0_0 _)
  replace c0_0_1 := hx8.cell (cell_alloc c0_0_1 _)
  replace c2_0_0 := hx8.cell (cell_alloc c2_0_0 _)
  replace c2_0_1 := hx8.cell (cell_alloc c2_0_1 _)
  replace c3_0_0 := hx8.cell (cell_alloc c3_0_0 _)
  replace c3_0_1 := hx8.cell (cell_alloc c3_0_1 _)
  replace c6_0_0 := hx8.cell (cell_alloc c6_0_0 _)
  replace c6_0_1 := hx8.cell (cell_alloc c6_0_1 _)
  have c7_0_0 : w8.cell? ⟨w7.heap.size, 0, none⟩ = some (.slice Xb xb cxb) := hx8.cell (by go_simp)
  have c7_0_1 : w8.cell? ⟨w7.heap.size, 1, none⟩ = some (.slice Yb yb cyb) := hx8.cell (by go_simp)
  replace s1 := hid ((s1.out.alloc _).ext hx8)
  replace t1 := hid ((t1.out.alloc _).ext hx8)
  replace s3 := hid ((s3.out.alloc _).ext hx8)
  replace Sp := hid ((Sp.out.alloc _).ext hx8)
  replace Tp := hid ((Tp.out.alloc _).ext hx8)
  replace Sr := hid ((Sr.out.alloc _).ext hx8)
  replace Tr := hid ((Tr.out.alloc _).ext hx8)
  replace Sd := hid ((Sd.out.alloc _).ext hx8)
  replace Se := hid ((Se.out.alloc _).ext hx8)
  replace Sa := hid ((Sa.out.alloc _).ext hx8)
  replace Ta := hid ((Ta.out.alloc _).ext hx8)
  replace Sb := hid ((Sb.out.alloc _).ext hx8)
  replace Tb := hid ((Tb.out.alloc _).ext hx8)
  replace hE := hid (Ext.trans (hE.out.alloc_right _) hx8)
  clear lt_1
  have lt_1 : w.heap.size < w8.heap.size := World.block_lt_of_cell? w8 _ c0_0_0
  clear lt_2
  have lt_2 : w2.heap.size < w8.heap.size := World.block_lt_of_cell? w8 _ c2_0_0
  clear lt_3
  have lt_3 : w3.heap.size < w8.heap.size := World.block_lt_of_cell? w8 _ c3_0_0
  clear lt_4
  have lt_4 : w6.heap.size < w8.heap.size := World.block_lt_of_cell? w8 _ c6_0_0
  have lt_5 : w7.heap.size < w8.heap.size := World.block_lt_of_cell? w8 _ c7_0_0
  clear hx8
  go_wp2_with fail
  refine (same_any _ _ _ _ _ _ _ _ _ Sd.out Se.out).mono ?_
  rintro e w9 ⟨rfl, hx9⟩
  replace c0_0_0 := hx9.ext.cell c0_0_0
  replace c0_0_1 := hx9.ext.cell c0_0_1
  replace c2_0_0 := hx9.ext.cell c2_0_0
  replace c2_0_1 := hx9.ext.cell c2_0_1
  replace c3_0_0 := hx9.ext.cell c3_0_0
  replace c3_0_1 := hx9.ext.cell c3_0_1
  replace c6_0_0 := hx9.ext.cell c6_0_0
  replace c6_0_1 := hx9.ext.cell c6_0_1
  replace c7_0_0 := hx9.ext.cell c7_0_0
  replace c7_0_1 := hx9.ext.cell c7_0_1
  replace s1 := hid (s1.out.ext hx9.ext)
  replace t1 := hid (t1.out.ext hx9.ext)
  replace s3 := hid (s3.out.ext hx9.ext)
  replace Sp := hid (Sp.out.ext hx9.ext)
  replace Tp := hid (Tp.out.ext hx9.ext)
  replace Sr := hid (Sr.out.ext hx9.ext)
  replace Tr := hid (Tr.out.ext hx9.ext)
  replace Sd := hid (Sd.out.ext hx9.ext)
  replace Se := hid (Se.out.ext hx9.ext)
  replace Sa := hid (Sa.out.ext hx9.ext)
  replace Ta := hid (Ta.out.ext hx9.ext)
  replace Sb := hid (Sb.out.ext hx9.ext)
  replace Tb := hid (Tb.out.ext hx9.ext)
  replace hE := hid (Ext.trans hE.out hx9.ext)
  clear lt_1
  have lt_1 : w.heap.size < w9.heap.size := World.block_lt_of_cell? w9 _ c0_0_0
  clear lt_2
  have lt_2 : w2.heap.size < w9.heap.size := World.block_lt_of_cell? w9 _ c2_0_0
  clear lt_3
  have lt_3 : w3.heap.size < w9.heap.size := World.block_lt_of_cell? w9 _ c3_0_0
  clear lt_4
  have lt_4 : w6.heap.size < w9.heap.size := World.block_lt_of_cell? w9 _ c6_0_0
  clear lt_5
  have lt_5 : w7.heap.size < w9.heap.size := World.block_lt_of_cell? w9 _ c7_0_0
  clear hx9
  go_wp2_with fail
  refine (samePair_any _ _ _ _ _ _ _ _ _ _ _ _ _ _ _ _ _ Sa.out Ta.out Sb.out Tb.out).mono ?_
  rintro e w10 ⟨rfl, hx10⟩
  replace c0_0_0 := hx10.cell c0_0_0
  replace c0_0_1 := hx10.cell c0_0_1
  replace c2_0_0 := hx10.cell c2_0_0
  replace c2_0_1 := hx10.cell c2_0_1
  replace c3_0_0 := hx10.cell c3_0_0
  replace c3_0_1 := hx10.cell c3_0_1
  replace c6_0_0 := hx10.cell c6_0_0
  replace c6_0_1 := hx10.cell c6_0_1
  replace c7_0_0 := hx10.cell c7_0_0
  replace c7_0_1 := hx10.cell c7_0_1
  replace s1 := hid (s1.out.ext hx10)
  replace t1 := hid (t1.out.ext hx10)
  replace s3 := hid (s3.out.ext hx10)
  replace Sp := hid (Sp.out.ext hx10)
  replace Tp := hid (Tp.out.ext hx10)
  replace Sr := hid (Sr.out.ext hx10)
  replace Tr := hid (Tr.out.ext hx10)
  replace Sd := hid (Sd.out.ext hx10)
  replace Se := hid (Se.out.ext hx10)
  replace Sa := hid (Sa.out.ext hx10)
  replace Ta := hid (Ta.out.ext hx10)
  replace Sb := hid (Sb.out.ext hx10)
  replace Tb := hid (Tb.out.ext hx10)
  replace hE := hid (Ext.trans hE.out hx10)
  clear lt_1
  have lt_1 : w.heap.size < w10.heap.size := World.block_lt_of_cell? w10 _ c0_0_0
  clear lt_2
  have lt_2 : w2.heap.size < w10.heap.size := World.block_lt_of_cell? w10 _ c2_0_0
  clear lt_3
  have lt_3 : w3.heap.size < w10.heap.size := World.block_lt_of_cell? w10 _ c3_0_0
  clear lt_4
  have lt_4 : w6.heap.size < w10.heap.size := World.block_lt_of_cell? w10 _ c6_0_0
  clear lt_5
  have lt_5 : w7.heap.size < w10.heap.size := World.block_lt_of_cell? w10 _ c7_0_0
  clear hx10
  go_wp2_with fail
  refine (known_any _).mono ?_
  rintro e w11 ⟨rfl, hx11⟩
  replace c0_0_0 := hx11.cell c0_0_0
  replace c0_0_1 := hx11.cell c0_0_1
  replace c2_0_0 := hx11.cell c2_0_0
  replace c2_0_1 := hx11.cell c2_0_1
  replace c3_0_0 := hx11.cell c3_0_0
  replace c3_0_1 := hx11.cell c3_0_1
  replace c6_0_0 := hx11.cell c6_0_0
  replace c6_0_1 := hx11.cell c6_0_1
  replace c7_0_0 := hx11.cell c7_0_0
  replace c7_0_1 := hx11.cell c7_0_1
  replace s1 := hid (s1.out.ext hx11)
  replace t1 := hid (t1.out.ext hx11)
  replace s3 := hid (s3.out.ext hx11)
  replace Sp := hid (Sp.out.ext hx11)
  replace Tp := hid (Tp.out.ext hx11)
  replace Sr := hid (Sr.out.ext hx11)
  replace Tr := hid (Tr.out.ext hx11)
  replace Sd := hid (Sd.out.ext hx11)
  replace Se := hid (Se.out.ext hx11)
  replace Sa := hid (Sa.out.ext hx11)
  replace Ta := hid (Ta.out.ext hx11)
  replace Sb := hid (Sb.out.ext hx11)
  replace Tb := hid (Tb.out.ext hx11)
  replace hE := hid (Ext.trans hE.out hx11)
  clear lt_1
  have lt_1 : w.heap.size < w11.heap.size := World.block_lt_of_cell? w11 _ c0_0_0
  clear lt_2
  have lt_2 : w2.heap.size < w11.heap.size := World.block_lt_of_cell? w11 _ c2_0_0
  clear lt_3
  have lt_3 : w3.heap.size < w11.heap.size := World.block_lt_of_cell? w11 _ c3_0_0
  clear lt_4
  have lt_4 : w6.heap.size < w11.heap.size := World.block_lt_of_cell? w11 _ c6_0_0
  clear lt_5
  have lt_5 : w7.heap.size < w11.heap.size := World.block_lt_of_cell? w11 _ c7_0_0
  clear hx11
  go_wp2
  go_ret
  exact ⟨rfl, hE.out⟩

theorem settles_law (A : Option Addr) (n c : Nat) (l : List Int) (B : Option Addr) (m d : Nat) (r : List Int) (Y : Option Addr) (p cp : Nat) (y : List Int) (w : World) (hs : RdI w A n c l) (ht : RdI w B m d r) (hy : RdI w Y p cp y) : Calls Try.prog 9 #[.agg #[.slice A n c, .slice B m d], .slice Y p cp] w (Give (.bool true) w) := by
  by_cases o1 : overB n m = true
  · exact settles_over1 _ _ _ _ _ _ _ _ _ _ _ _ _ hs ht hy o1
  · replace o1 : overB n m = false := by simpa using o1
    by_cases o2 : 3000 < p
    · exact settles_over2 _ _ _ _ _ _ _ _ _ _ _ _ _ hs ht hy o1 o2
    · have a1 : n ≤ 3000 ∧ m ≤ 3000 := by simp [overB] at o1; omega
      refine settles_main _ _ _ _ _ _ _ _ _ _ _ _ _ hs ht hy a1.1 a1.2 (by omega) ?_ ?_ ?_ ?_ ?_
      · rw [setA_eq, sameS_refl]
      · unfold setE rsetE; rw [setOk_eq]; simp
      · rw [doubtA_eq, sameS_refl]
      · unfold doubtE rdoubtE; rw [rval_eq]; simp
      · rw [sameS_refl]
end Go.Proofs.Ytffcaoicokookaa
