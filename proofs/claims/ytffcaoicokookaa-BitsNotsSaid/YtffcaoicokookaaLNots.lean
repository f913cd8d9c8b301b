import Derived.Test.YtffcaoicokookaaT20
namespace Go.Proofs.Ytffcaoicokookaa
open Go.RowKit
attribute [local go_sem ↓] Go.wp_at_zero Go.wp_at_succ
set_option linter.unusedVariables false

set_option maxRecDepth 100000 in
set_option maxHeartbeats 2000000 in
theorem nots_over (A : Option Addr) (n c : Nat) (l : List Int) (B : Option Addr) (m d : Nat) (r : List Int) (N : Int) (w : World) (hs : RdI w A n c l) (ht : RdI w B m d r) (h1 : overB n m = true) : Calls Try.prog 7 #[.agg #[.slice A n c, .slice B m d], .int .i64 N] w (Give (.bool true) w) := by
  go_enter Try.func7, Try.ntmps7
  have s1 := hid hs
  have t1 := hid ht
  clear hs ht
  go_wp2_with fail
  refine (over_any _ _ _ _ _ _ _ _ _ (s1.out.alloc _) (t1.out.alloc _)).mono ?_
  rintro e w1 ⟨rfl, hx1⟩
  have c0_0_0 : w1.cell? ⟨w.heap.size, 0, none⟩ = some (.slice A n c) := hx1.cell (by go_simp)
  have c0_0_1 : w1.cell? ⟨w.heap.size, 1, none⟩ = some (.slice B m d) := hx1.cell (by go_simp)
  replace s1 := hid ((s1.out.alloc _).ext hx1)
  replace t1 := hid ((t1.out.alloc _).ext hx1)
  have hE := hid (Ext.trans ((Ext.refl w).alloc_right _) hx1)
  have lt_1 : w.heap.size < w1.heap.size := World.block_lt_of_cell? w1 _ c0_0_0
  clear hx1
  go_wp2_with fail
  refine (known_any _).mono ?_
  rintro e w2 ⟨rfl, hx2⟩
  replace c0_0_0 := hx2.cell c0_0_0
  replace c0_0_1 := hx2.cell c0_0_1
  replace s1 := hid (s1.out.ext hx2)
  replace t1 := hid (t1.out.ext hx2)
  replace hE := hid (Ext.trans hE.out hx2)
  clear lt_1
  have lt_1 : w.heap.size < w2.heap.size := World.block_lt_of_cell? w2 _ c0_0_0
  clear hx2
  go_wp2
  go_ret
  exact ⟨rfl, hE.out⟩

set_option maxRecDepth 100000 in
set_option maxHeartbeats 2000000 in
theorem nots_main (A : Option Addr) (n c : Nat) (l : List Int) (B : Option Addr) (m d : Nat) (r : List Int) (N : Int) (w : World) (hs : RdI w A n c l) (ht : RdI w B m d r) (hn : n ≤ 3000) (hm : m ≤ 3000) (k1 : (sameS (notA l r N) (rnotA l r N) && sameS (notB l r N) (rnotB l r N)) = true) (k2 : (notE l r N == rnotE l r N) = true) (k3 : (sameS ([] : List Int) [] && sameS (anyA N) (anyA N)) = true) : Calls Try.prog 7 #[.agg #[.slice A n c, .slice B m d], .int .i64 N] w (Give (.bool true) w) := by
  have o1 : overB n m = false := by simp [overB]; omega
  go_enter Try.func7, Try.ntmps7
  have s1 := hid hs
  have t1 := hid ht
  clear hs ht
  go_wp2_with fail
  refine (over_any _ _ _ _ _ _ _ _ _ (s1.out.alloc _) (t1.out.alloc _)).mono ?_
  rintro e w1 ⟨rfl, hx1⟩
  have c0_0_0 : w1.cell? ⟨w.heap.size, 0, none⟩ = some (.slice A n c) := hx1.cell (by go_simp)
  have c0_0_1 : w1.cell? ⟨w.heap.size, 1, none⟩ = some (.slice B m d) := hx1.cell (by go_simp)
  replace s1 := hid ((s1.out.alloc _).ext hx1)
  replace t1 := hid ((t1.out.alloc _).ext hx1)
  have hE := hid (Ext.trans ((Ext.refl w).alloc_right _) hx1)
  have lt_1 : w.heap.size < w1.heap.size := World.block_lt_of_cell? w1 _ c0_0_0
  clear hx1
  go_wp2_with fail
  refine (Not_any _ _ _ _ _ _ _ _ N _ s1.out t1.out hn hm).mono ?_
  rintro e w2 ⟨Xp, xp, cxp, Yp, yp, cyp, rfl, rxp, ryp, hx2, -, -⟩
  replace c0_0_0 := hx2.cell c0_0_0
  replace c0_0_1 := hx2.cell c0_0_1
  replace s1 := hid (s1.out.ext hx2)
  replace t1 := hid (t1.out.ext hx2)
  replace hE := hid (Ext.trans hE.out hx2)
  clear lt_1
  have lt_1 : w.heap.size < w2.heap.size := World.block_lt_of_cell? w2 _ c0_0_0
  have Sp := hid rxp
  have Tp := hid ryp
  clear hx2 rxp ryp
  go_wp2_with fail
  refine (rNot_any _ _ _ _ _ _ _ _ N _ (s1.out.alloc _) (t1.out.alloc _) hn hm).mono ?_
  rintro e w3 ⟨Xr, xr, cxr, Yr, yr, cyr, rfl, rxr, ryr, hx3, -, -⟩
  replace c0_0_0 := hx3.cell (cell_alloc c0_0_0 _)
  replace c0_0_1 := hx3.cell (cell_alloc c0_0_1 _)
  have c2_0_0 : w3.cell? ⟨w2.heap.size, 0, none⟩ = some (.slice Xp xp cxp) := hx3.cell (by go_simp)
  have c2_0_1 : w3.cell? ⟨w2.heap.size, 1, none⟩ = some (.slice Yp yp cyp) := hx3.cell (by go_simp)
  replace s1 := hid ((s1.out.alloc _).ext hx3)
  replace t1 := hid ((t1.out.alloc _).ext hx3)
  replace Sp := hid ((Sp.out.alloc _).ext hx3)
  replace Tp := hid ((Tp.out.alloc _).ext hx3)
  replace hE := hid (Ext.trans (hE.out.alloc_right _) hx3)
  clear lt_1
  have lt_1 : w.heap.size < w3.heap.size := World.block_lt_of_cell? w3 _ c0_0_0
  have lt_2 : w2.heap.size < w3.heap.size := World.block_lt_of_cell? w3 _ c2_0_0
  have Sr := hid rxr
  have Tr := hid ryr
  clear hx3 rxr ryr
  go_wp2_with fail
  refine (Any_any N _).mono ?_
  rintro e w4 ⟨Xa, xa, cxa, Ya, ya, cya, rfl, rxa, rya, hx4, -, -⟩
  replace c0_0_0 := hx4.cell (cell_alloc c0_0_0 _)
  replace c0_0_1 := hx4.cell (cell_alloc c0_0_1 _)
  replace c2_0_0 := hx4.cell (cell_alloc c2_0_0 _)
  replace c2_0_1 := hx4.cell (cell_alloc c2_0_1 _)
  have c3_0_0 : w4.cell? ⟨w3.heap.size, 0, none⟩ = some (.slice Xr xr cxr) := hx4.cell (by go_simp)
  have c3_0_1 : w4.cell? ⟨w3.heap.size, 1, none⟩ = some (.slice Yr yr cyr) := hx4.cell (by go_simp)
  replace s1 := hid ((s1.out.alloc _).ext hx4)
  replace t1 := hid ((t1.out.alloc _).ext hx4)
  replace Sp := hid ((Sp.out.alloc _).ext hx4)
  replace Tp := hid ((Tp.out.alloc _).ext hx4)
  replace Sr := hid ((Sr.out.alloc _).ext hx4)
  replace Tr := hid ((Tr.out.alloc _).ext hx4)
  replace hE := hid (Ext.trans (hE.out.alloc_right _) hx4)
  clear lt_1
  have lt_1 : w.heap.size < w4.heap.size := World.block_lt_of_cell? w4 _ c0_0_0
  clear lt_2
  have lt_2 : w2.heap.size < w4.heap.size := World.block_lt_of_cell? w4 _ c2_0_0
  have lt_3 : w3.heap.size < w4.heap.size := World.block_lt_of_cell? w4 _ c3_0_0
  have Sa := hid rxa
  have Ta := hid rya
  clear hx4 rxa rya
  go_wp2_with fail
  refine (rAny_any N _).mono ?_
  rintro e w5 ⟨Xb, xb, cxb, Yb, yb, cyb, rfl, rxb, ryb, hx5, -, -⟩
  replace c0_0_0 := hx5.cell (cell_alloc c0_0_0 _)
  replace c0_0_1 := hx5.cell (cell_alloc c0_0_1 _)
  replace c2_0_0 := hx5.cell (cell_alloc c2_0_0 _)
  replace c2_0_1 := hx5.cell (cell_alloc c2_0_1 _)
  replace c3_0_0 := hx5.cell (cell_alloc c3_0_0 _)
  replace c3_0_1 := hx5.cell (cell_alloc c3_0_1 _)
  have c4_0_0 : w5.cell? ⟨w4.heap.size, 0, none⟩ = some (.slice Xa xa cxa) := hx5.cell (by go_simp)
  have c4_0_1 : w5.cell? ⟨w4.heap.size, 1, none⟩ = some (.slice Ya ya cya) := hx5.cell (by go_simp)
  replace s1 := hid ((s1.out.alloc _).ext hx5)
  replace t1 := hid ((t1.out.alloc _).ext hx5)
  replace Sp := hid ((Sp.out.alloc _).ext hx5)
  replace Tp := hid ((Tp.out.alloc _).ext hx5)
  replace Sr := hid ((Sr.out.alloc _).ext hx5)
  replace Tr := hid ((Tr.out.alloc _).ext hx5)
  replace Sa := hid ((Sa.out.alloc _).ext hx5)
  replace Ta := hid ((Ta.out.alloc _).ext hx5)
  replace hE := hid (Ext.trans (hE.out.alloc_right _) hx5)
  clear lt_1
  have lt_1 : w.heap.size < w5.heap.size := World.block_lt_of_cell? w5 _ c0_0_0
  clear lt_2
  have lt_2 : w2.heap.size < w5.heap.size := World.block_lt_of_cell? w5 _ c2_0_0
  clear lt_3
  have lt_3 : w3.heap.size < w5.heap.size := World.block_lt_of_cell? w5 _ c3_0_0
  have lt_4 : w4.heap.size < w5.heap.size := World.block_lt_of_cell? w5 _ c4_0_0
  have Sb := hid rxb
  have Tb := hid ryb
  clear hx5 rxb ryb
  go_wp2_with fail
  refine (samePair_any _ _ _ _ _ _ _ _ _ _ _ _ _ _ _ _ _ (Sp.out.alloc _) (Tp.out.alloc _) (Sr.out.alloc _) (Tr.out.alloc _)).mono ?_
  rintro e w6 ⟨rfl, hx6⟩
  replace c0_0_0 := hx6.cell (cell_alloc c0_0_0 _)
  replace c0_0_1 := hx6.cell (cell_alloc c0_0_1 _)
  replace c2_0_0 := hx6.cell (cell_alloc c2_0_0 _)
  replace c2_0_1 := hx6.cell (cell_alloc c2_0_1 _)
  replace c3_0_0 := hx6.cell (cell_alloc c3_0_0 _)
  replace c3_0_1 := hx6.cell (cell_alloc c3_0_1 _)
  replace c4_0_0 := hx6.cell (cell_alloc c4_0_0 _)
  replace c4_0_1 := hx6.cell (cell_alloc c4_0_1 _)
  have c5_0_0 : w6.cell? ⟨w5.heap.size, 0, none⟩ = some (.slice Xb xb cxb) := hx6.cell (by go_simp)
  have c5_0_1 : w6.cell? ⟨w5.heap.size, 1, none⟩ = some (.slice Yb yb cyb) := hx6.cell (by go_simp)
  replace s1 := hid ((s1.out.alloc _).ext hx6)
  replace t1 := hid ((t1.out.alloc _).ext hx6)
  replace Sp := hid ((Sp.out.alloc _).ext hx6)
  replace Tp := hid ((Tp.out.alloc _).ext hx6)
  replace Sr := hid ((Sr.out.alloc _).ext hx6)
  replace Tr := hid ((Tr.out.alloc _).ext hx6)
  replace Sa := hid ((Sa.out.alloc _).ext hx6)
  replace Ta := hid ((Ta.out.alloc _).ext hx6)
  replace Sb := hid ((Sb.out.alloc _).ext hx6)
  replace Tb := hid ((Tb.out.alloc _).ext hx6)
  replace hE := hid (Ext.trans (hE.out.alloc_right _) hx6)
  clear lt_1
  have lt_1 : w.heap.size < w6.heap.size := World.block_lt_of_cell? w6 _ c0_0_0
  clear lt_2
  have lt_2 : w2.heap.size < w6.heap.size := World.block_lt_of_cell? w6 _ c2_0_0
  clear lt_3
  have lt_3 : w3.heap.size < w6.heap.size := World.block_lt_of_cell? w6 _ c3_0_0
  clear lt_4
  have lt_4 : w4.heap.size < w6.heap.size := World.block_lt_of_cell? w6 _ c4_0_0
  have lt_5 : w5.heap.size < w6.heap.size := World.block_lt_of_cell? w6 _ c5_0_0
  clear hx6
  go_wp2_with fail
  refine (samePair_any _ _ _ _ _ _ _ _ _ _ _ _ _ _ _ _ _ Sa.out Ta.out Sb.out Tb.out).mono ?_
  rintro e w7 ⟨rfl, hx7⟩
  replace c0_0_0 := hx7.cell c0_0_0
  replace c0_0_1 := hx7.cell c0_0_1
  replace c2_0_0 := hx7.cell c2_0_0
  replace c2_0_1 := hx7.cell c2_0_1
  replace c3_0_0 := hx7.cell c3_0_0
  replace c3_0_1 := hx7.cell c3_0_1
  replace c4_0_0 := hx7.cell c4_0_0
  replace c4_0_1 := hx7.cell c4_0_1
  replace c5_0_0 := hx7.cell c5_0_0
  replace c5_0_1 := hx7.cell c5_0_1
  replace s1 := hid (s1.out.ext hx7)
  replace t1 := hid (t1.out.ext hx7)
  replace Sp := hid (Sp.out.ext hx7)
  replace Tp := hid (Tp.out.ext hx7)
  replace Sr := hid (Sr.out.ext hx7)
  replace Tr := hid (Tr.out.ext hx7)
  replace Sa := hid (Sa.out.ext hx7)
  replace Ta := hid (Ta.out.ext hx7)
  replace Sb := hid (Sb.out.ext hx7)
  replace Tb := hid (Tb.out.ext hx7)
  replace hE := hid (Ext.trans hE.out hx7)
  clear lt_1
  have lt_1 : w.heap.size < w7.heap.size := World.block_lt_of_cell? w7 _ c0_0_0
  clear lt_2
  have lt_2 : w2.heap.size < w7.heap.size := World.block_lt_of_cell? w7 _ c2_0_0
  clear lt_3
  have lt_3 : w3.heap.size < w7.heap.size := World.block_lt_of_cell? w7 _ c3_0_0
  clear lt_4
  have lt_4 : w4.heap.size < w7.heap.size := World.block_lt_of_cell? w7 _ c4_0_0
  clear lt_5
  have lt_5 : w5.heap.size < w7.heap.size := World.block_lt_of_cell? w7 _ c5_0_0
  clear hx7
  go_wp2_with fail
  refine (known_any _).mono ?_
  rintro e w8 ⟨rfl, hx8⟩
  replace c0_0_0 := hx8.cell c0_0_0
  replace c0_0_1 := hx8.cell c0_0_1
  replace c2_0_0 := hx8.cell c2_0_0
  replace c2_0_1 := hx8.cell c2_0_1
  replace c3_0_0 := hx8.cell c3_0_0
  replace c3_0_1 := hx8.cell c3_0_1
  replace c4_0_0 := hx8.cell c4_0_0
  replace c4_0_1 := hx8.cell c4_0_1
  replace c5_0_0 := hx8.cell c5_0_0
  replace c5_0_1 := hx8.cell c5_0_1
  replace s1 := hid (s1.out.ext hx8)
  replace t1 := hid (t1.out.ext hx8)
  replace Sp := hid (Sp.out.ext hx8)
  replace Tp := hid (Tp.out.ext hx8)
  replace Sr := hid (Sr.out.ext hx8)
  replace Tr := hid (Tr.out.ext hx8)
  replace Sa := hid (Sa.out.ext hx8)
  replace Ta := hid (Ta.out.ext hx8)
  replace Sb := hid (Sb.out.ext hx8)
  replace Tb := hid (Tb.out.ext hx8)
  replace hE := hid (Ext.trans hE.out hx8)
  clear lt_1
  have lt_1 : w.heap.size < w8.heap.size := World.block_lt_of_cell? w8 _ c0_0_0
  clear lt_2
  have lt_2 : w2.heap.size < w8.heap.size := World.block_lt_of_cell? w8 _ c2_0_0
  clear lt_3
  have lt_3 : w3.heap.size < w8.heap.size := World.block_lt_of_cell? w8 _ c3_0_0
  clear lt_4
  have lt_4 : w4.heap.size < w8.heap.size := World.block_lt_of_cell? w8 _ c4_0_0
  clear lt_5
  have lt_5 : w5.heap.size < w8.heap.size := World.block_lt_of_cell? w8 _ c5_0_0
  clear hx8
  go_wp2
  go_ret
  exact ⟨rfl, hE.out⟩

theorem nots_law (A : Option Addr) (n c : Nat) (l : List Int) (B : Option Addr) (m d : Nat) (r : List Int) (N : Int) (w : World) (hs : RdI w A n c l) (ht : RdI w B m d r) (_hN : (Lit.int .i64 N).wf = true) : Calls Try.prog 7 #[.agg #[.slice A n c, .slice B m d], .int .i64 N] w (Give (.bool true) w) := by
  by_cases o1 : overB n m = true
  · exact nots_over _ _ _ _ _ _ _ _ _ _ hs ht o1
  · have a1 : n ≤ 3000 ∧ m ≤ 3000 := by simp [overB] at o1; omega
    refine nots_main _ _ _ _ _ _ _ _ _ _ hs ht a1.1 a1.2 ?_ ?_ ?_
    · rw [notA_eq, notB_eq, sameS_refl, sameS_refl]; rfl
    · unfold notE rnotE; rw [notOk_eq]; simp
    · rw [sameS_refl, sameS_refl]; rfl
end Go.Proofs.Ytffcaoicokookaa
