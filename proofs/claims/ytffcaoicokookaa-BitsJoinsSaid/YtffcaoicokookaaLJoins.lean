import Derived.Test.YtffcaoicokookaaT19
namespace Go.Proofs.Ytffcaoicokookaa
open Go.RowKit
attribute [local go_sem ↓] Go.wp_at_zero Go.wp_at_succ
set_option linter.unusedVariables false
theorem cell_alloc {w : World} {a : Addr} {v : Value} (h : w.cell? a = some v) (o : Obj) : (w.alloc o).cell? a = some v := (Ext.refl w).alloc_right o |>.cell h
theorem sameS_refl (l : List Int) : sameS l l = true := by simp [sameS]

set_option maxRecDepth 100000 in
set_option maxHeartbeats 2000000 in
theorem joins_over1 (A : Option Addr) (n c : Nat) (l : List Int) (B : Option Addr) (m d : Nat) (r : List Int) (A' : Option Addr) (n' c' : Nat) (l' : List Int) (B' : Option Addr) (m' d' : Nat) (r' : List Int) (w : World) (hs : RdI w A n c l) (ht : RdI w B m d r) (hs' : RdI w A' n' c' l') (ht' : RdI w B' m' d' r') (h1 : overB n m = true) :
    Calls Try.prog 4 #[.agg #[.slice A n c, .slice B m d], .agg #[.slice A' n' c', .slice B' m' d']] w (Give (.bool true) w) := by
  go_enter Try.func4, Try.ntmps4
  have s1 := hid hs
  have t1 := hid ht
  have s2 := hid hs'
  have t2 := hid ht'
  clear hs ht hs' ht'
  go_wp2_with fail
  refine (over_any _ _ _ _ _ _ _ _ _ ((s1.out.alloc _).alloc _) ((t1.out.alloc _).alloc _)).mono ?_
  rintro e w1 ⟨rfl, hx1⟩
  have c0_0_0 : w1.cell? ⟨w.heap.size, 0, none⟩ = some (.slice A n c) := hx1.cell (by go_simp)
  have c0_0_1 : w1.cell? ⟨w.heap.size, 1, none⟩ = some (.slice B m d) := hx1.cell (by go_simp)
  have c0_1_0 : w1.cell? ⟨w.heap.size + 1, 0, none⟩ = some (.slice A' n' c') := hx1.cell (by go_simp)
  have c0_1_1 : w1.cell? ⟨w.heap.size + 1, 1, none⟩ = some (.slice B' m' d') := hx1.cell (by go_simp)
  replace s1 := hid (((s1.out.alloc _).alloc _).ext hx1)
  replace t1 := hid (((t1.out.alloc _).alloc _).ext hx1)
  replace s2 := hid (((s2.out.alloc _).alloc _).ext hx1)
  replace t2 := hid (((t2.out.alloc _).alloc _).ext hx1)
  have hE := hid (Ext.trans (((Ext.refl w).alloc_right _).alloc_right _) hx1)
  have lt_1 : w.heap.size < w1.heap.size := World.block_lt_of_cell? w1 _ c0_0_0
  have lt_2 : w.heap.size + 1 < w1.heap.size := World.block_lt_of_cell? w1 _ c0_1_0
  clear hx1
  go_wp2_with fail
  refine (known_any _).mono ?_
  rintro e w2 ⟨rfl, hx2⟩
  replace c0_0_0 := hx2.cell c0_0_0
  replace c0_0_1 := hx2.cell c0_0_1
  replace c0_1_0 := hx2.cell c0_1_0
  replace c0_1_1 := hx2.cell c0_1_1
  replace s1 := hid (s1.out.ext hx2)
  replace t1 := hid (t1.out.ext hx2)
  replace s2 := hid (s2.out.ext hx2)
  replace t2 := hid (t2.out.ext hx2)
  replace hE := hid (Ext.trans hE.out hx2)
  clear lt_1
  have lt_1 : w.heap.size < w2.heap.size := World.block_lt_of_cell? w2 _ c0_0_0
  clear lt_2
  have lt_2 : w.heap.size + 1 < w2.heap.size := World.block_lt_of_cell? w2 _ c0_1_0
  clear hx2
  go_wp2
  go_ret
  exact ⟨rfl, hE.out⟩

set_option maxRecDepth 100000 in
set_option maxHeartbeats 2000000 in
theorem joins_over2 (A : Option Addr) (n c : Nat) (l : List Int) (B : Option Addr) (m d : Nat) (r : List Int) (A' : Option Addr) (n' c' : Nat) (l' : List Int) (B' : Option Addr) (m' d' : Nat) (r' : List Int) (w : World) (hs : RdI w A n c l) (ht : RdI w B m d r) (hs' : RdI w A' n' c' l') (ht' : RdI w B' m' d' r') (h1 : overB n m = false) (h2 : overB n' m' = true) :
    Calls Try.prog 4 #[.agg #[.slice A n c, .slice B m d], .agg #[.slice A' n' c', .slice B' m' d']] w (Give (.bool true) w) := by
  go_enter Try.func4, Try.ntmps4
  have s1 := hid hs
  have t1 := hid ht
  have s2 := hid hs'
  have t2 := hid ht'
  clear hs ht hs' ht'
  go_wp2_with fail
  refine (over_any _ _ _ _ _ _ _ _ _ ((s1.out.alloc _).alloc _) ((t1.out.alloc _).alloc _)).mono ?_
  rintro e w1 ⟨rfl, hx1⟩
  have c0_0_0 : w1.cell? ⟨w.heap.size, 0, none⟩ = some (.slice A n c) := hx1.cell (by go_simp)
  have c0_0_1 : w1.cell? ⟨w.heap.size, 1, none⟩ = some (.slice B m d) := hx1.cell (by go_simp)
  have c0_1_0 : w1.cell? ⟨w.heap.size + 1, 0, none⟩ = some (.slice A' n' c') := hx1.cell (by go_simp)
  have c0_1_1 : w1.cell? ⟨w.heap.size + 1, 1, none⟩ = some (.slice B' m' d') := hx1.cell (by go_simp)
  replace s1 := hid (((s1.out.alloc _).alloc _).ext hx1)
  replace t1 := hid (((t1.out.alloc _).alloc _).ext hx1)
  replace s2 := hid (((s2.out.alloc _).alloc _).ext hx1)
  replace t2 := hid (((t2.out.alloc _).alloc _).ext hx1)
  have hE := hid (Ext.trans (((Ext.refl w).alloc_right _).alloc_right _) hx1)
  have lt_1 : w.heap.size < w1.heap.size := World.block_lt_of_cell? w1 _ c0_0_0
  have lt_2 : w.heap.size + 1 < w1.heap.size := World.block_lt_of_cell? w1 _ c0_1_0
  clear hx1
  go_wp2_with fail
  refine (over_any _ _ _ _ _ _ _ _ _ s2.out t2.out).mono ?_
  rintro e w2 ⟨rfl, hx2⟩
  replace c0_0_0 := hx2.cell c0_0_0
  replace c0_0_1 := hx2.cell c0_0_1
  replace c0_1_0 := hx2.cell c0_1_0
  replace c0_1_1 := hx2.cell c0_1_1
  replace s1 := hid (s1.out.ext hx2)
  replace t1 := hid (t1.out.ext hx2)
  replace s2 := hid (s2.out.ext hx2)
  replace t2 := hid (t2.out.ext hx2)
  replace hE := hid (Ext.trans hE.out hx2)
  clear lt_1
  have lt_1 : w.heap.size < w2.heap.size := World.block_lt_of_cell? w2 _ c0_0_0
  clear lt_2
  have lt_2 : w.heap.size + 1 < w2.heap.size := World.block_lt_of_cell? w2 _ c0_1_0
  clear hx2
  go_wp2_with fail
  refine (known_any _).mono ?_
  rintro e w3 ⟨rfl, hx3⟩
  replace c0_0_0 := hx3.cell c0_0_0
  replace c0_0_1 := hx3.cell c0_0_1
  replace c0_1_0 := hx3.cell c0_1_0
  replace c0_1_1 := hx3.cell c0_1_1
  replace s1 := hid (s1.out.ext hx3)
  replace t1 := hid (t1.out.ext hx3)
  replace s2 := hid (s2.out.ext hx3)
  replace t2 := hid (t2.out.ext hx3)
  replace hE := hid (Ext.trans hE.out hx3)
  clear lt_1
  have lt_1 : w.heap.size < w3.heap.size := World.block_lt_of_cell? w3 _ c0_0_0
  clear lt_2
  have lt_2 : w.heap.size + 1 < w3.heap.size := World.block_lt_of_cell? w3 _ c0_1_0
  clear hx3
  go_wp2
  go_ret
  exact ⟨rfl, hE.out⟩

set_option maxRecDepth 100000 in
set_option maxHeartbeats 2000000 in
theorem joins_yes (A : Option Addr) (n c : Nat) (l : List Int) (B : Option Addr) (m d : Nat) (r : List Int) (A' : Option Addr) (n' c' : Nat) (l' : List Int) (B' : Option Addr) (m' d' : Nat) (r' : List Int) (w : World) (hs : RdI w A n c l) (ht : RdI w B m d r) (hs' : RdI w A' n' c' l') (ht' : RdI w B' m' d' r') (hn : n ≤ 3000) (hm : m ≤ 3000) (hn' : n' ≤ 3000) (hm' : m' ≤ 3000) (h1 : Hid (valB l r = true)) (h2 : Hid (valB l' r' = true)) (hb : Hid (rboth l r l' r' = 0)) (hv : errOf (valB l r) = errOf (rvalB l r)) (k1 : (sameS (joinS and l l') (interS l l') && sameS (joinS and r r') (interS r r')) = true) (k2 : (sameS (joinS or l l') (eitherS l l') && sameS (joinS or r r') (eitherS r r')) = true) :
    Calls Try.prog 4 #[.agg #[.slice A n c, .slice B m d], .agg #[.slice A' n' c', .slice B' m' d']] w (Give (.bool true) w) := by
  have hv' : (errOf (valB l r) == errOf (rvalB l r)) = true := by simpa using hv
  clear hv
  have o1 : overB n m = false := by simp [overB]; omega
  have o2 : overB n' m' = false := by simp [overB]; omega
  go_enter Try.func4, Try.ntmps4
  have s1 := hid hs
  have t1 := hid ht
  have s2 := hid hs'
  have t2 := hid ht'
  clear hs ht hs' ht'
  go_wp2_with fail
  refine (over_any _ _ _ _ _ _ _ _ _ ((s1.out.alloc _).alloc _) ((t1.out.alloc _).alloc _)).mono ?_
  rintro e w1 ⟨rfl, hx1⟩
  have c0_0_0 : w1.cell? ⟨w.heap.size, 0, none⟩ = some (.slice A n c) := hx1.cell (by go_simp)
  have c0_0_1 : w1.cell? ⟨w.heap.size, 1, none⟩ = some (.slice B m d) := hx1.cell (by go_simp)
  have c0_1_0 : w1.cell? ⟨w.heap.size + 1, 0, none⟩ = some (.slice A' n' c') := hx1.cell (by go_simp)
  have c0_1_1 : w1.cell? ⟨w.heap.size + 1, 1, none⟩ = some (.slice B' m' d') := hx1.cell (by go_simp)
  replace s1 := hid (((s1.out.alloc _).alloc _).ext hx1)
  replace t1 := hid (((t1.out.alloc _).alloc _).ext hx1)
  replace s2 := hid (((s2.out.alloc _).alloc _).ext hx1)
  replace t2 := hid (((t2.out.alloc _).alloc _).ext hx1)
  have hE := hid (Ext.trans (((Ext.refl w).alloc_right _).alloc_right _) hx1)
  have lt_1 : w.heap.size < w1.heap.size := World.block_lt_of_cell? w1 _ c0_0_0
  have lt_2 : w.heap.size + 1 < w1.heap.size := World.block_lt_of_cell? w1 _ c0_1_0
  clear hx1
  go_wp2_with fail
  refine (over_any _ _ _ _ _ _ _ _ _ s2.out t2.out).mono ?_
  rintro e w2 ⟨rfl, hx2⟩
  replace c0_0_0 := hx2.cell c0_0_0
  replace c0_0_1 := hx2.cell c0_0_1
  replace c0_1_0 := hx2.cell c0_1_0
  replace c0_1_1 := hx2.cell c0_1_1
  replace s1 := hid (s1.out.ext hx2)
  replace t1 := hid (t1.out.ext hx2)
  replace s2 := hid (s2.out.ext hx2)
  replace t2 := hid (t2.out.ext hx2)
  replace hE := hid (Ext.trans hE.out hx2)
  clear lt_1
  have lt_1 : w.heap.size < w2.heap.size := World.block_lt_of_cell? w2 _ c0_0_0
  clear lt_2
  have lt_2 : w.heap.size + 1 < w2.heap.size := World.block_lt_of_cell? w2 _ c0_1_0
  clear hx2
  go_wp2_with fail
  clear o1 o2
  refine (And_yes _ _ _ _ _ _ _ _ _ _ _ _ _ _ _ _ _ s1.out t1.out s2.out t2.out hn hm hn' hm' h1.out h2.out).mono ?_
  rintro e w3 ⟨Xap, xap, cxap, Yap, yap, cyap, rfl, rxap, ryap, hx3, -, -⟩
  replace c0_0_0 := hx3.cell c0_0_0
  replace c0_0_1 := hx3.cell c0_0_1
  replace c0_1_0 := hx3.cell c0_1_0
  replace c0_1_1 := hx3.cell c0_1_1
  replace s1 := hid (s1.out.ext hx3)
  replace t1 := hid (t1.out.ext hx3)
  replace s2 := hid (s2.out.ext hx3)
  replace t2 := hid (t2.out.ext hx3)
  replace hE := hid (Ext.trans hE.out hx3)
  clear lt_1
  have lt_1 : w.heap.size < w3.heap.size := World.block_lt_of_cell? w3 _ c0_0_0
  clear lt_2
  have lt_2 : w.heap.size + 1 < w3.heap.size := World.block_lt_of_cell? w3 _ c0_1_0
  have Sap := hid rxap
  have Tap := hid ryap
  clear hx3 rxap ryap
  go_wp2_with fail
  refine (rAnd_yes _ _ _ _ _ _ _ _ _ _ _ _ _ _ _ _ _ (s1.out.alloc _) (t1.out.alloc _) (s2.out.alloc _) (t2.out.alloc _) hn hm hn' hm' hb.out).mono ?_
  rintro e w4 ⟨Xar, xar, cxar, Yar, yar, cyar, rfl, rxar, ryar, hx4, -, -⟩
  replace c0_0_0 := hx4.cell (cell_alloc c0_0_0 _)
  replace c0_0_1 := hx4.cell (cell_alloc c0_0_1 _)
  replace c0_1_0 := hx4.cell (cell_alloc c0_1_0 _)
  replace c0_1_1 := hx4.cell (cell_alloc c0_1_1 _)
  have c3_0_0 : w4.cell? ⟨w3.heap.size, 0, none⟩ = some (.slice Xap xap cxap) := hx4.cell (by go_simp)
  have c3_0_1 : w4.cell? ⟨w3.heap.size, 1, none⟩ = some (.slice Yap yap cyap) := hx4.cell (by go_simp)
  replace s1 := hid ((s1.out.alloc _).ext hx4)
  replace t1 := hid ((t1.out.alloc _).ext hx4)
  replace s2 := hid ((s2.out.alloc _).ext hx4)
  replace t2 := hid ((t2.out.alloc _).ext hx4)
  replace Sap := hid ((Sap.out.alloc _).ext hx4)
  replace Tap := hid ((Tap.out.alloc _).ext hx4)
  replace hE := hid (Ext.trans (hE.out.alloc_right _) hx4)
  clear lt_1
  have lt_1 : w.heap.size < w4.heap.size := World.block_lt_of_cell? w4 _ c0_0_0
  clear lt_2
  have lt_2 : w.heap.size + 1 < w4.heap.size := World.block_lt_of_cell? w4 _ c0_1_0
  have lt_3 : w3.heap.size < w4.heap.size := World.block_lt_of_cell? w4 _ c3_0_0
  have Sar := hid rxar
  have Tar := hid ryar
  clear hx4 rxar ryar
  go_wp2_with fail
  refine (Or_yes _ _ _ _ _ _ _ _ _ _ _ _ _ _ _ _ _ (s1.out.alloc _) (t1.out.alloc _) (s2.out.alloc _) (t2.out.alloc _) hn hm hn' hm' h1.out h2.out).mono ?_
  rintro e w5 ⟨Xop, xop, cxop, Yop, yop, cyop, rfl, rxop, ryop, hx5, -, -⟩
  replace c0_0_0 := hx5.cell (cell_alloc c0_0_0 _)
  replace c0_0_1 := hx5.cell (cell_alloc c0_0_1 _)
  replace c0_1_0 := hx5.cell (cell_alloc c0_1_0 _)
  replace c0_1_1 := hx5.cell (cell_alloc c0_1_1 _)
  replace c3_0_0 := hx5.cell (cell_alloc c3_0_0 _)
  replace c3_0_1 := hx5.cell (cell_alloc c3_0_1 _)
  have c4_0_0 : w5.cell? ⟨w4.heap.size, 0, none⟩ = some (.slice Xar xar cxar) := hx5.cell (by go_simp)
  have c4_0_1 : w5.cell? ⟨w4.heap.size, 1, none⟩ = some (.slice Yar yar cyar) := hx5.cell (by go_simp)
  replace s1 := hid ((s1.out.alloc _).ext hx5)
  replace t1 := hid ((t1.out.alloc _).ext hx5)
  replace s2 := hid ((s2.out.alloc _).ext hx5)
  replace t2 := hid ((t2.out.alloc _).ext hx5)
  replace Sap := hid ((Sap.out.alloc _).ext hx5)
  replace Tap := hid ((Tap.out.alloc _).ext hx5)
  replace Sar := hid ((Sar.out.alloc _).ext hx5)
  replace Tar := hid ((Tar.out.alloc _).ext hx5)
  replace hE := hid (Ext.trans (hE.out.alloc_right _) hx5)
  clear lt_1
  have lt_1 : w.heap.size < w5.heap.size := World.block_lt_of_cell? w5 _ c0_0_0
  clear lt_2
  have lt_2 : w.heap.size + 1 < w5.heap.size := World.block_lt_of_cell? w5 _ c0_1_0
  clear lt_3
  have lt_3 : w3.heap.size < w5.heap.size := World.block_lt_of_cell? w5 _ c3_0_0
  have lt_4 : w4.heap.size < w5.heap.size := World.block_lt_of_cell? w5 _ c4_0_0
  have Sop := hid rxop
  have Top := hid ryop
  clear hx5 rxop ryop
  go_wp2_with fail
  refine (rOr_yes _ _ _ _ _ _ _ _ _ _ _ _ _ _ _ _ _ (s1.out.alloc _) (t1.out.alloc _) (s2.out.alloc _) (t2.out.alloc _) hn hm hn' hm' hb.out).mono ?_
  rintro e w6 ⟨Xor, xor, cxor, Yor, yor, cyor, rfl, rxor, ryor, hx6, -, -⟩
  replace c0_0_0 := hx6.cell (cell_alloc c0_0_0 _)
  replace c0_0_1 := hx6.cell (cell_alloc c0_0_1 _)
  replace c0_1_0 := hx6.cell (cell_alloc c0_1_0 _)
  replace c0_1_1 := hx6.cell (cell_alloc c0_1_1 _)
  replace c3_0_0 := hx6.cell (cell_alloc c3_0_0 _)
  replace c3_0_1 := hx6.cell (cell_alloc c3_0_1 _)
  replace c4_0_0 := hx6.cell (cell_alloc c4_0_0 _)
  replace c4_0_1 := hx6.cell (cell_alloc c4_0_1 _)
  have c5_0_0 : w6.cell? ⟨w5.heap.size, 0, none⟩ = some (.slice Xop xop cxop) := hx6.cell (by go_simp)
  have c5_0_1 : w6.cell? ⟨w5.heap.size, 1, none⟩ = some (.slice Yop yop cyop) := hx6.cell (by go_simp)
  replace s1 := hid ((s1.out.alloc _).ext hx6)
  replace t1 := hid ((t1.out.alloc _).ext hx6)
  replace s2 := hid ((s2.out.alloc _).ext hx6)
  replace t2 := hid ((t2.out.alloc _).ext hx6)
  replace Sap := hid ((Sap.out.alloc _).ext hx6)
  replace Tap := hid ((Tap.out.alloc _).ext hx6)
  replace Sar := hid ((Sar.out.alloc _).ext hx6)
  replace Tar := hid ((Tar.out.alloc _).ext hx6)
  replace Sop := hid ((Sop.out.alloc _).ext hx6)
  replace Top := hid ((Top.out.alloc _).ext hx6)
  replace hE := hid (Ext.trans (hE.out.alloc_right _) hx6)
  clear lt_1
  have lt_1 : w.heap.size < w6.heap.size := World.block_lt_of_cell? w6 _ c0_0_0
  clear lt_2
  have lt_2 : w.heap.size + 1 < w6.heap.size := World.block_lt_of_cell? w6 _ c0_1_0
  clear lt_3
  have lt_3 : w3.heap.size < w6.heap.size := World.block_lt_of_cell? w6 _ c3_0_0
  clear lt_4
  have lt_4 : w4.heap.size < w6.heap.size := World.block_lt_of_cell? w6 _ c4_0_0
  have lt_5 : w5.heap.size < w6.heap.size := World.block_lt_of_cell? w6 _ c5_0_0
  have Sor := hid rxor
  have Tor := hid ryor
  clear hx6 rxor ryor
  go_wp2_with fail
  have HS : Hid (∀ w', Ext (w6.alloc (.cells #[.slice Xor xor cxor, .slice Yor yor cyor] 29)) w' → (w'.cell? ⟨w.heap.size, 0, none⟩ = some (.slice A n c) ∧ w'.cell? ⟨w.heap.size, 1, none⟩ = some (.slice B m d) ∧ w'.cell? ⟨w.heap.size + 1, 0, none⟩ = some (.slice A' n' c') ∧ w'.cell? ⟨w.heap.size + 1, 1, none⟩ = some (.slice B' m' d') ∧ w'.cell? ⟨w3.heap.size, 0, none⟩ = some (.slice Xap xap cxap) ∧ w'.cell? ⟨w3.heap.size, 1, none⟩ = some (.slice Yap yap cyap) ∧ w'.cell? ⟨w4.heap.size, 0, none⟩ = some (.slice Xar xar cxar) ∧ w'.cell? ⟨w4.heap.size, 1, none⟩ = some (.slice Yar yar cyar) ∧ w'.cell? ⟨w5.heap.size, 0, none⟩ = some (.slice Xop xop cxop) ∧ w'.cell? ⟨w5.heap.size, 1, none⟩ = some (.slice Yop yop cyop) ∧ w'.cell? ⟨w6.heap.size, 0, none⟩ = some (.slice Xor xor cxor) ∧ w'.cell? ⟨w6.heap.size, 1, none⟩ = some (.slice Yor yor cyor) ∧ Ext (w6.alloc (.cells #[.slice Xor xor cxor, .slice Yor yor cyor] 29)) w')) := fun w' h => ⟨h.cell (cell_alloc c0_0_0 _), h.cell (cell_alloc c0_0_1 _), h.cell (cell_alloc c0_1_0 _), h.cell (cell_alloc c0_1_1 _), h.cell (cell_alloc c3_0_0 _), h.cell (cell_alloc c3_0_1 _), h.cell (cell_alloc c4_0_0 _), h.cell (cell_alloc c4_0_1 _), h.cell (cell_alloc c5_0_0 _), h.cell (cell_alloc c5_0_1 _), h.cell (by go_simp), h.cell (by go_simp), h⟩
  have s1' := hid (s1.out.alloc (.cells #[.slice Xor xor cxor, .slice Yor yor cyor] 29))
  have t1' := hid (t1.out.alloc (.cells #[.slice Xor xor cxor, .slice Yor yor cyor] 29))
  have s2' := hid (s2.out.alloc (.cells #[.slice Xor xor cxor, .slice Yor yor cyor] 29))
  have t2' := hid (t2.out.alloc (.cells #[.slice Xor xor cxor, .slice Yor yor cyor] 29))
  have Sap' := hid (Sap.out.alloc (.cells #[.slice Xor xor cxor, .slice Yor yor cyor] 29))
  have Tap' := hid (Tap.out.alloc (.cells #[.slice Xor xor cxor, .slice Yor yor cyor] 29))
  have Sar' := hid (Sar.out.alloc (.cells #[.slice Xor xor cxor, .slice Yor yor cyor] 29))
  have Tar' := hid (Tar.out.alloc (.cells #[.slice Xor xor cxor, .slice Yor yor cyor] 29))
  have Sop' := hid (Sop.out.alloc (.cells #[.slice Xor xor cxor, .slice Yor yor cyor] 29))
  have Top' := hid (Top.out.alloc (.cells #[.slice Xor xor cxor, .slice Yor yor cyor] 29))
  have Sor' := hid (Sor.out.alloc (.cells #[.slice Xor xor cxor, .slice Yor yor cyor] 29))
  have Tor' := hid (Tor.out.alloc (.cells #[.slice Xor xor cxor, .slice Yor yor cyor] 29))
  clear c0_0_0 c0_0_1 c0_1_0 c0_1_1 c3_0_0 c3_0_1 c4_0_0 c4_0_1 c5_0_0 c5_0_1
  have tok1 : True := trivial
  have tok2 : True := trivial
  have tok3 : True := trivial
  have tok4 : True := trivial
  have tok5 : True := trivial
  go_region_held3 (fun w' => w'.cell? ⟨w.heap.size, 0, none⟩ = some (.slice A n c) ∧ w'.cell? ⟨w.heap.size, 1, none⟩ = some (.slice B m d) ∧ w'.cell? ⟨w.heap.size + 1, 0, none⟩ = some (.slice A' n' c') ∧ w'.cell? ⟨w.heap.size + 1, 1, none⟩ = some (.slice B' m' d') ∧ w'.cell? ⟨w3.heap.size, 0, none⟩ = some (.slice Xap xap cxap) ∧ w'.cell? ⟨w3.heap.size, 1, none⟩ = some (.slice Yap yap cyap) ∧ w'.cell? ⟨w4.heap.size, 0, none⟩ = some (.slice Xar xar cxar) ∧ w'.cell? ⟨w4.heap.size, 1, none⟩ = some (.slice Yar yar cyar) ∧ w'.cell? ⟨w5.heap.size, 0, none⟩ = some (.slice Xop xop cxop) ∧ w'.cell? ⟨w5.heap.size, 1, none⟩ = some (.slice Yop yop cyop) ∧ w'.cell? ⟨w6.heap.size, 0, none⟩ = some (.slice Xor xor cxor) ∧ w'.cell? ⟨w6.heap.size, 1, none⟩ = some (.slice Yor yor cyor) ∧ Ext (w6.alloc (.cells #[.slice Xor xor cxor, .slice Yor yor cyor] 29)) w')
    ((first | exact HS.out _ (Ext.drew_right (Ext.refl _)) | (go_split_ands; exact HS.out _ (Ext.trans (by assumption) hx100)) | (go_split_ands; exact HS.out _ (Ext.trans (by assumption) hx101)) | (go_split_ands; exact HS.out _ (Ext.trans (by assumption) hx102)) | (go_split_ands; exact HS.out _ (Ext.trans (by assumption) hx103)) | (go_split_ands; exact HS.out _ (Ext.trans (by assumption) hx104))))
    ((first | (go_at_call 21; have _t := tok1; go_split_ands; refine (samePair_any _ _ _ _ _ _ _ _ _ _ _ _ _ _ _ _ _ (Sap'.out.ext (by assumption)) (Tap'.out.ext (by assumption)) (Sar'.out.ext (by assumption)) (Tar'.out.ext (by assumption))).mono ?_; rintro e W1 ⟨rfl, hx100⟩; clear _t tok1) | (go_at_call 21; have _t := tok2; go_split_ands; refine (samePair_any _ _ _ _ _ _ _ _ _ _ _ _ _ _ _ _ _ (Sop'.out.ext (by assumption)) (Top'.out.ext (by assumption)) (Sor'.out.ext (by assumption)) (Tor'.out.ext (by assumption))).mono ?_; rintro e W2 ⟨rfl, hx101⟩; clear _t tok2) | (go_at_call 22; have _t := tok3; go_split_ands; refine (Validate_any _ _ _ _ _ _ _ _ _ (s1'.out.ext (by assumption)) (t1'.out.ext (by assumption)) hn hm).mono ?_; rintro e W3 ⟨rfl, hx102⟩; clear _t tok3) | (go_at_call 23; have _t := tok4; go_split_ands; refine (rValidate_any _ _ _ _ _ _ _ _ _ (s1'.out.ext (by assumption)) (t1'.out.ext (by assumption))).mono ?_; rintro e W4 ⟨rfl, hx103⟩; clear _t tok4) | (go_at_call 12; have _t := tok5; go_split_ands; refine (known_any _).mono ?_; rintro e W5 ⟨rfl, hx104⟩; clear _t tok5)))
  have hfin := hid (Ext.trans (hE.out.alloc_right _) (Ext.drew_right (Ext.refl _) |>.trans hx100 |>.trans hx101 |>.trans hx102 |>.trans hx103 |>.trans hx104))
  clear hx100 hx101 hx102 hx103 hx104
  go_wp2
  go_ret
  exact ⟨rfl, hfin.out⟩

set_option maxRecDepth 100000 in
set_option maxHeartbeats 2000000 in
theorem joins_no (A : Option Addr) (n c : Nat) (l : List Int) (B : Option Addr) (m d : Nat) (r : List Int) (A' : Option Addr) (n' c' : Nat) (l' : List Int) (B' : Option Addr) (m' d' : Nat) (r' : List Int) (w : World) (hs : RdI w A n c l) (ht : RdI w B m d r) (hs' : RdI w A' n' c' l') (ht' : RdI w B' m' d' r') (hn : n ≤ 3000) (hm : m ≤ 3000) (hn' : n' ≤ 3000) (hm' : m' ≤ 3000) (h : Hid (valB l r = false ∨ valB l' r' = false)) (hb : Hid (rboth l r l' r' = 1)) (hv : errOf (valB l r) = errOf (rvalB l r)) :
    Calls Try.prog 4 #[.agg #[.slice A n c, .slice B m d], .agg #[.slice A' n' c', .slice B' m' d']] w (Give (.bool true) w) := by
  have hv' : (errOf (valB l r) == errOf (rvalB l r)) = true := by simpa using hv
  have k1 : (sameS ([] : List Int) [] && sameS ([] : List Int) []) = true := by decide
  clear hv
  have o1 : overB n m = false := by simp [overB]; omega
  have o2 : overB n' m' = false := by simp [overB]; omega
  go_enter Try.func4, Try.ntmps4
  have s1 := hid hs
  have t1 := hid ht
  have s2 := hid hs'
  have t2 := hid ht'
  clear hs ht hs' ht'
  go_wp2_with fail
  refine (over_any _ _ _ _ _ _ _ _ _ ((s1.out.alloc _).alloc _) ((t1.out.alloc _).alloc _)).mono ?_
  rintro e w1 ⟨rfl, hx1⟩
  have c0_0_0 : w1.cell? ⟨w.heap.size, 0, none⟩ = some (.slice A n c) := hx1.cell (by go_simp)
  have c0_0_1 : w1.cell? ⟨w.heap.size, 1, none⟩ = some (.slice B m d) := hx1.cell (by go_simp)
  have c0_1_0 : w1.cell? ⟨w.heap.size + 1, 0, none⟩ = some (.slice A' n' c') := hx1.cell (by go_simp)
  have c0_1_1 : w1.cell? ⟨w.heap.size + 1, 1, none⟩ = some (.slice B' m' d') := hx1.cell (by go_simp)
  replace s1 := hid (((s1.out.alloc _).alloc _).ext hx1)
  replace t1 := hid (((t1.out.alloc _).alloc _).ext hx1)
  replace s2 := hid (((s2.out.alloc _).alloc _).ext hx1)
  replace t2 := hid (((t2.out.alloc _).alloc _).ext hx1)
  have hE := hid (Ext.trans (((Ext.refl w).alloc_right _).alloc_right _) hx1)
  have lt_1 : w.heap.size < w1.heap.size := World.block_lt_of_cell? w1 _ c0_0_0
  have lt_2 : w.heap.size + 1 < w1.heap.size := World.block_lt_of_cell? w1 _ c0_1_0
  clear hx1
  go_wp2_with fail
  refine (over_any _ _ _ _ _ _ _ _ _ s2.out t2.out).mono ?_
  rintro e w2 ⟨rfl, hx2⟩
  replace c0_0_0 := hx2.cell c0_0_0
  replace c0_0_1 := hx2.cell c0_0_1
  replace c0_1_0 := hx2.cell c0_1_0
  replace c0_1_1 := hx2.cell c0_1_1
  replace s1 := hid (s1.out.ext hx2)
  replace t1 := hid (t1.out.ext hx2)
  replace s2 := hid (s2.out.ext hx2)
  replace t2 := hid (t2.out.ext hx2)
  replace hE := hid (Ext.trans hE.out hx2)
  clear lt_1
  have lt_1 : w.heap.size < w2.heap.size := World.block_lt_of_cell? w2 _ c0_0_0
  clear lt_2
  have lt_2 : w.heap.size + 1 < w2.heap.size := World.block_lt_of_cell? w2 _ c0_1_0
  clear hx2
  go_wp2_with fail
  clear o1 o2
  refine (And_no _ _ _ _ _ _ _ _ _ _ _ _ _ _ _ _ _ s1.out t1.out s2.out t2.out hn hm hn' hm' h.out).mono ?_
  rintro e w3 ⟨Xap, xap, cxap, Yap, yap, cyap, rfl, rxap, ryap, hx3, -, -⟩
  replace c0_0_0 := hx3.cell c0_0_0
  replace c0_0_1 := hx3.cell c0_0_1
  replace c0_1_0 := hx3.cell c0_1_0
  replace c0_1_1 := hx3.cell c0_1_1
  replace s1 := hid (s1.out.ext hx3)
  replace t1 := hid (t1.out.ext hx3)
  replace s2 := hid (s2.out.ext hx3)
  replace t2 := hid (t2.out.ext hx3)
  replace hE := hid (Ext.trans hE.out hx3)
  clear lt_1
  have lt_1 : w.heap.size < w3.heap.size := World.block_lt_of_cell? w3 _ c0_0_0
  clear lt_2
  have lt_2 : w.heap.size + 1 < w3.heap.size := World.block_lt_of_cell? w3 _ c0_1_0
  have Sap := hid rxap
  have Tap := hid ryap
  clear hx3 rxap ryap
  go_wp2_with fail
  refine (rAnd_no _ _ _ _ _ _ _ _ _ _ _ _ _ _ _ _ _ (s1.out.alloc _) (t1.out.alloc _) (s2.out.alloc _) (t2.out.alloc _) hb.out).mono ?_
  rintro e w4 ⟨Xar, xar, cxar, Yar, yar, cyar, rfl, rxar, ryar, hx4, -, -⟩
  replace c0_0_0 := hx4.cell (cell_alloc c0_0_0 _)
  replace c0_0_1 := hx4.cell (cell_alloc c0_0_1 _)
  replace c0_1_0 := hx4.cell (cell_alloc c0_1_0 _)
  replace c0_1_1 := hx4.cell (cell_alloc c0_1_1 _)
  have c3_0_0 : w4.cell? ⟨w3.heap.size, 0, none⟩ = some (.slice Xap xap cxap) := hx4.cell (by go_simp)
  have c3_0_1 : w4.cell? ⟨w3.heap.size, 1, none⟩ = some (.slice Yap yap cyap) := hx4.cell (by go_simp)
  replace s1 := hid ((s1.out.alloc _).ext hx4)
  replace t1 := hid ((t1.out.alloc _).ext hx4)
  replace s2 := hid ((s2.out.alloc _).ext hx4)
  replace t2 := hid ((t2.out.alloc _).ext hx4)
  replace Sap := hid ((Sap.out.alloc _).ext hx4)
  replace Tap := hid ((Tap.out.alloc _).ext hx4)
  replace hE := hid (Ext.trans (hE.out.alloc_right _) hx4)
  clear lt_1
  have lt_1 : w.heap.size < w4.heap.size := World.block_lt_of_cell? w4 _ c0_0_0
  clear lt_2
  have lt_2 : w.heap.size + 1 < w4.heap.size := World.block_lt_of_cell? w4 _ c0_1_0
  have lt_3 : w3.heap.size < w4.heap.size := World.block_lt_of_cell? w4 _ c3_0_0
  have Sar := hid rxar
  have Tar := hid ryar
  clear hx4 rxar ryar
  go_wp2_with fail
  refine (Or_no _ _ _ _ _ _ _ _ _ _ _ _ _ _ _ _ _ (s1.out.alloc _) (t1.out.alloc _) (s2.out.alloc _) (t2.out.alloc _) hn hm hn' hm' h.out).mono ?_
  rintro e w5 ⟨Xop, xop, cxop, Yop, yop, cyop, rfl, rxop, ryop, hx5, -, -⟩
  replace c0_0_0 := hx5.cell (cell_alloc c0_0_0 _)
  replace c0_0_1 := hx5.cell (cell_alloc c0_0_1 _)
  replace c0_1_0 := hx5.cell (cell_alloc c0_1_0 _)
  replace c0_1_1 := hx5.cell (cell_alloc c0_1_1 _)
  replace c3_0_0 := hx5.cell (cell_alloc c3_0_0 _)
  replace c3_0_1 := hx5.cell (cell_alloc c3_0_1 _)
  have c4_0_0 : w5.cell? ⟨w4.heap.size, 0, none⟩ = some (.slice Xar xar cxar) := hx5.cell (by go_simp)
  have c4_0_1 : w5.cell? ⟨w4.heap.size, 1, none⟩ = some (.slice Yar yar cyar) := hx5.cell (by go_simp)
  replace s1 := hid ((s1.out.alloc _).ext hx5)
  replace t1 := hid ((t1.out.alloc _).ext hx5)
  replace s2 := hid ((s2.out.alloc _).ext hx5)
  replace t2 := hid ((t2.out.alloc _).ext hx5)
  replace Sap := hid ((Sap.out.alloc _).ext hx5)
  replace Tap := hid ((Tap.out.alloc _).ext hx5)
  replace Sar := hid ((Sar.out.alloc _).ext hx5)
  replace Tar := hid ((Tar.out.alloc _).ext hx5)
  replace hE := hid (Ext.trans (hE.out.alloc_right _) hx5)
  clear lt_1
  have lt_1 : w.heap.size < w5.heap.size := World.block_lt_of_cell? w5 _ c0_0_0
  clear lt_2
  have lt_2 : w.heap.size + 1 < w5.heap.size := World.block_lt_of_cell? w5 _ c0_1_0
  clear lt_3
  have lt_3 : w3.heap.size < w5.heap.size := World.block_lt_of_cell? w5 _ c3_0_0
  have lt_4 : w4.heap.size < w5.heap.size := World.block_lt_of_cell? w5 _ c4_0_0
  have Sop := hid rxop
  have Top := hid ryop
  clear hx5 rxop ryop
  go_wp2_with fail
  refine (rOr_no _ _ _ _ _ _ _ _ _ _ _ _ _ _ _ _ _ (s1.out.alloc _) (t1.out.alloc _) (s2.out.alloc _) (t2.out.alloc _) hb.out).mono ?_
  rintro e w6 ⟨Xor, xor, cxor, Yor, yor, cyor, rfl, rxor, ryor, hx6, -, -⟩
  replace c0_0_0 := hx6.cell (cell_alloc c0_0_0 _)
  replace c0_0_1 := hx6.cell (cell_alloc c0_0_1 _)
  replace c0_1_0 := hx6.cell (cell_alloc c0_1_0 _)
  replace c0_1_1 := hx6.cell (cell_alloc c0_1_1 _)
  replace c3_0_0 := hx6.cell (cell_alloc c3_0_0 _)
  replace c3_0_1 := hx6.cell (cell_alloc c3_0_1 _)
  replace c4_0_0 := hx6.cell (cell_alloc c4_0_0 _)
  replace c4_0_1 := hx6.cell (cell_alloc c4_0_1 _)
  have c5_0_0 : w6.cell? ⟨w5.heap.size, 0, none⟩ = some (.slice Xop xop cxop) := hx6.cell (by go_simp)
  have c5_0_1 : w6.cell? ⟨w5.heap.size, 1, none⟩ = some (.slice Yop yop cyop) := hx6.cell (by go_simp)
  replace s1 := hid ((s1.out.alloc _).ext hx6)
  replace t1 := hid ((t1.out.alloc _).ext hx6)
  replace s2 := hid ((s2.out.alloc _).ext hx6)
  replace t2 := hid ((t2.out.alloc _).ext hx6)
  replace Sap := hid ((Sap.out.alloc _).ext hx6)
  replace Tap := hid ((Tap.out.alloc _).ext hx6)
  replace Sar := hid ((Sar.out.alloc _).ext hx6)
  replace Tar := hid ((Tar.out.alloc _).ext hx6)
  replace Sop := hid ((Sop.out.alloc _).ext hx6)
  replace Top := hid ((Top.out.alloc _).ext hx6)
  replace hE := hid (Ext.trans (hE.out.alloc_right _) hx6)
  clear lt_1
  have lt_1 : w.heap.size < w6.heap.size := World.block_lt_of_cell? w6 _ c0_0_0
  clear lt_2
  have lt_2 : w.heap.size + 1 < w6.heap.size := World.block_lt_of_cell? w6 _ c0_1_0
  clear lt_3
  have lt_3 : w3.heap.size < w6.heap.size := World.block_lt_of_cell? w6 _ c3_0_0
  clear lt_4
  have lt_4 : w4.heap.size < w6.heap.size := World.block_lt_of_cell? w6 _ c4_0_0
  have lt_5 : w5.heap.size < w6.heap.size := World.block_lt_of_cell? w6 _ c5_0_0
  have Sor := hid rxor
  have Tor := hid ryor
  clear hx6 rxor ryor
  go_wp2_with fail
  have HS : Hid (∀ w', Ext (w6.alloc (.cells #[.slice Xor xor cxor, .slice Yor yor cyor] 29)) w' → (w'.cell? ⟨w.heap.size, 0, none⟩ = some (.slice A n c) ∧ w'.cell? ⟨w.heap.size, 1, none⟩ = some (.slice B m d) ∧ w'.cell? ⟨w.heap.size + 1, 0, none⟩ = some (.slice A' n' c') ∧ w'.cell? ⟨w.heap.size + 1, 1, none⟩ = some (.slice B' m' d') ∧ w'.cell? ⟨w3.heap.size, 0, none⟩ = some (.slice Xap xap cxap) ∧ w'.cell? ⟨w3.heap.size, 1, none⟩ = some (.slice Yap yap cyap) ∧ w'.cell? ⟨w4.heap.size, 0, none⟩ = some (.slice Xar xar cxar) ∧ w'.cell? ⟨w4.heap.size, 1, none⟩ = some (.slice Yar yar cyar) ∧ w'.cell? ⟨w5.heap.size, 0, none⟩ = some (.slice Xop xop cxop) ∧ w'.cell? ⟨w5.heap.size, 1, none⟩ = some (.slice Yop yop cyop) ∧ w'.cell? ⟨w6.heap.size, 0, none⟩ = some (.slice Xor xor cxor) ∧ w'.cell? ⟨w6.heap.size, 1, none⟩ = some (.slice Yor yor cyor) ∧ Ext (w6.alloc (.cells #[.slice Xor xor cxor, .slice Yor yor cyor] 29)) w')) := fun w' h => ⟨h.cell (cell_alloc c0_0_0 _), h.cell (cell_alloc c0_0_1 _), h.cell (cell_alloc c0_1_0 _), h.cell (cell_alloc c0_1_1 _), h.cell (cell_alloc c3_0_0 _), h.cell (cell_alloc c3_0_1 _), h.cell (cell_alloc c4_0_0 _), h.cell (cell_alloc c4_0_1 _), h.cell (cell_alloc c5_0_0 _), h.cell (cell_alloc c5_0_1 _), h.cell (by go_simp), h.cell (by go_simp), h⟩
  have s1' := hid (s1.out.alloc (.cells #[.slice Xor xor cxor, .slice Yor yor cyor] 29))
  have t1' := hid (t1.out.alloc (.cells #[.slice Xor xor cxor, .slice Yor yor cyor] 29))
  have s2' := hid (s2.out.alloc (.cells #[.slice Xor xor cxor, .slice Yor yor cyor] 29))
  have t2' := hid (t2.out.alloc (.cells #[.slice Xor xor cxor, .slice Yor yor cyor] 29))
  have Sap' := hid (Sap.out.alloc (.cells #[.slice Xor xor cxor, .slice Yor yor cyor] 29))
  have Tap' := hid (Tap.out.alloc (.cells #[.slice Xor xor cxor, .slice Yor yor cyor] 29))
  have Sar' := hid (Sar.out.alloc (.cells #[.slice Xor xor cxor, .slice Yor yor cyor] 29))
  have Tar' := hid (Tar.out.alloc (.cells #[.slice Xor xor cxor, .slice Yor yor cyor] 29))
  have Sop' := hid (Sop.out.alloc (.cells #[.slice Xor xor cxor, .slice Yor yor cyor] 29))
  have Top' := hid (Top.out.alloc (.cells #[.slice Xor xor cxor, .slice Yor yor cyor] 29))
  have Sor' := hid (Sor.out.alloc (.cells #[.slice Xor xor cxor, .slice Yor yor cyor] 29))
  have Tor' := hid (Tor.out.alloc (.cells #[.slice Xor xor cxor, .slice Yor yor cyor] 29))
  clear c0_0_0 c0_0_1 c0_1_0 c0_1_1 c3_0_0 c3_0_1 c4_0_0 c4_0_1 c5_0_0 c5_0_1
  have tok1 : True := trivial
  have tok2 : True := trivial
  have tok3 : True := trivial
  have tok4 : True := trivial
  have tok5 : True := trivial
  go_region_held3 (fun w' => w'.cell? ⟨w.heap.size, 0, none⟩ = some (.slice A n c) ∧ w'.cell? ⟨w.heap.size, 1, none⟩ = some (.slice B m d) ∧ w'.cell? ⟨w.heap.size + 1, 0, none⟩ = some (.slice A' n' c') ∧ w'.cell? ⟨w.heap.size + 1, 1, none⟩ = some (.slice B' m' d') ∧ w'.cell? ⟨w3.heap.size, 0, none⟩ = some (.slice Xap xap cxap) ∧ w'.cell? ⟨w3.heap.size, 1, none⟩ = some (.slice Yap yap cyap) ∧ w'.cell? ⟨w4.heap.size, 0, none⟩ = some (.slice Xar xar cxar) ∧ w'.cell? ⟨w4.heap.size, 1, none⟩ = some (.slice Yar yar cyar) ∧ w'.cell? ⟨w5.heap.size, 0, none⟩ = some (.slice Xop xop cxop) ∧ w'.cell? ⟨w5.heap.size, 1, none⟩ = some (.slice Yop yop cyop) ∧ w'.cell? ⟨w6.heap.size, 0, none⟩ = some (.slice Xor xor cxor) ∧ w'.cell? ⟨w6.heap.size, 1, none⟩ = some (.slice Yor yor cyor) ∧ Ext (w6.alloc (.cells #[.slice Xor xor cxor, .slice Yor yor cyor] 29)) w')
    ((first | exact HS.out _ (Ext.drew_right (Ext.refl _)) | (go_split_ands; exact HS.out _ (Ext.trans (by assumption) hx100)) | (go_split_ands; exact HS.out _ (Ext.trans (by assumption) hx101)) | (go_split_ands; exact HS.out _ (Ext.trans (by assumption) hx102)) | (go_split_ands; exact HS.out _ (Ext.trans (by assumption) hx103)) | (go_split_ands; exact HS.out _ (Ext.trans (by assumption) hx104))))
    ((first | (go_at_call 21; have _t := tok1; go_split_ands; refine (samePair_any _ _ _ _ _ _ _ _ _ _ _ _ _ _ _ _ _ (Sap'.out.ext (by assumption)) (Tap'.out.ext (by assumption)) (Sar'.out.ext (by assumption)) (Tar'.out.ext (by assumption))).mono ?_; rintro e W1 ⟨rfl, hx100⟩; clear _t tok1) | (go_at_call 21; have _t := tok2; go_split_ands; refine (samePair_any _ _ _ _ _ _ _ _ _ _ _ _ _ _ _ _ _ (Sop'.out.ext (by assumption)) (Top'.out.ext (by assumption)) (Sor'.out.ext (by assumption)) (Tor'.out.ext (by assumption))).mono ?_; rintro e W2 ⟨rfl, hx101⟩; clear _t tok2) | (go_at_call 22; have _t := tok3; go_split_ands; refine (Validate_any _ _ _ _ _ _ _ _ _ (s1'.out.ext (by assumption)) (t1'.out.ext (by assumption)) hn hm).mono ?_; rintro e W3 ⟨rfl, hx102⟩; clear _t tok3) | (go_at_call 23; have _t := tok4; go_split_ands; refine (rValidate_any _ _ _ _ _ _ _ _ _ (s1'.out.ext (by assumption)) (t1'.out.ext (by assumption))).mono ?_; rintro e W4 ⟨rfl, hx103⟩; clear _t tok4) | (go_at_call 12; have _t := tok5; go_split_ands; refine (known_any _).mono ?_; rintro e W5 ⟨rfl, hx104⟩; clear _t tok5)))
  have hfin := hid (Ext.trans (hE.out.alloc_right _) (Ext.drew_right (Ext.refl _) |>.trans hx100 |>.trans hx101 |>.trans hx102 |>.trans hx103 |>.trans hx104))
  clear hx100 hx101 hx102 hx103 hx104
  go_wp2
  go_ret
  exact ⟨rfl, hfin.out⟩

theorem joins_law (A : Option Addr) (n c : Nat) (l : List Int) (B : Option Addr) (m d : Nat) (r : List Int) (A' : Option Addr) (n' c' : Nat) (l' : List Int) (B' : Option Addr) (m' d' : Nat) (r' : List Int) (w : World) (hs : RdI w A n c l) (ht : RdI w B m d r) (hs' : RdI w A' n' c' l') (ht' : RdI w B' m' d' r') :
    Calls Try.prog 4 #[.agg #[.slice A n c, .slice B m d], .agg #[.slice A' n' c', .slice B' m' d']] w (Give (.bool true) w) := by
  by_cases o1 : overB n m = true
  · exact joins_over1 _ _ _ _ _ _ _ _ _ _ _ _ _ _ _ _ _ hs ht hs' ht' o1
  · replace o1 : overB n m = false := by simpa using o1
    by_cases o2 : overB n' m' = true
    · exact joins_over2 _ _ _ _ _ _ _ _ _ _ _ _ _ _ _ _ _ hs ht hs' ht' o1 o2
    · have a1 : n ≤ 3000 ∧ m ≤ 3000 := by simp [overB] at o1; omega
      have a2 : n' ≤ 3000 ∧ m' ≤ 3000 := by simp [overB] at o2; omega
      have hv : errOf (valB l r) = errOf (rvalB l r) := by rw [rval_eq]
      by_cases h1 : valB l r = true
      · by_cases h2 : valB l' r' = true
        · have sl := set_of_valB h1
          have sl' := set_of_valB h2
          refine joins_yes _ _ _ _ _ _ _ _ _ _ _ _ _ _ _ _ _ hs ht hs' ht' a1.1 a1.2 a2.1 a2.2 h1 h2 ?_ hv ?_ ?_
          · unfold Hid rboth; rw [rval_eq, if_pos h1, rval_eq, h2]; rfl
          · rw [join_both (pw_set sl.1) (pw_set sl'.1), join_both (pw_set sl.2) (pw_set sl'.2), sameS_refl, sameS_refl]; rfl
          · rw [join_any sl.1 sl'.1, join_any sl.2 sl'.2, sameS_refl, sameS_refl]; rfl
        · replace h2 : valB l' r' = false := by simpa using h2
          refine joins_no _ _ _ _ _ _ _ _ _ _ _ _ _ _ _ _ _ hs ht hs' ht' a1.1 a1.2 a2.1 a2.2 (Or.inr h2) ?_ hv
          unfold Hid rboth; rw [rval_eq, if_pos h1, rval_eq, h2]; rfl
      · replace h1 : valB l r = false := by simpa using h1
        refine joins_no _ _ _ _ _ _ _ _ _ _ _ _ _ _ _ _ _ hs ht hs' ht' a1.1 a1.2 a2.1 a2.2 (Or.inl h1) ?_ hv
        unfold Hid rboth; rw [rval_eq, h1]; rfl
end Go.Proofs.Ytffcaoicokookaa
