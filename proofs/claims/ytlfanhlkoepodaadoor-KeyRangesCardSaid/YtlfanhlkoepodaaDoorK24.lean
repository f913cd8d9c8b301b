/-
  The law of the order of keys.
-/
import Derived.Test.YtlfanhlkoepodaaDoorK23
import Derived.Deep.RegionWith
namespace Go.Proofs.YtlfanhlkoepodaaDoor
open Go.RowKit
set_option linter.unusedVariables false
set_option linter.unusedSimpArgs false
theorem blk_ne {a b i j : Nat} (h : a ≠ b) : (⟨a, i, none⟩ : Addr) ≠ ⟨b, j, none⟩ := fun e => h (by injection e)
set_option maxRecDepth 100000 in
set_option maxHeartbeats 20000000 in
theorem orders_law (k n : Int) (s : ByteArray) (k' n' : Int) (s' : ByteArray) (x : Int) (w : World) (_ : (Lit.int .i64 k).wf = true) (_ : (Lit.int .i64 n).wf = true) (hs : s.size ≤ maxLen) (_ : (Lit.int .i64 k').wf = true) (_ : (Lit.int .i64 n').wf = true) (hs' : s'.size ≤ maxLen) (hx : (Lit.int .i64 x).wf = true) (hm : ML w) : Calls Tryd.prog 4 #[vV k n s, vV k' n' s', .int .i64 x] w (Give (.bool true) w) := by
  replace hm := hid hm
  clear hs hs'
  have co := hid (fun g w H => over_any (fun j => if j = 0 then s else s') 2 g (by omega) w H)
  have pg := hid (fun w => page_any x (wf_in hx) w)
  clear hx
  have ce := hid (fun p c d w hm => Encode_any k n s p c d w hm)
  have cf := hid (fun p c d w hm => Encode_any k' n' s' p c d w hm)
  have hf := hid (fun s w => first_any s w)
  have cq := hid (fun w => rCompare_any k n (fst48 s) k' n' (fst48 s') w)
  have co2 := hid (fun p c w => Pg.rOrder_any (fst48 s) (fst48 s') p c w)
  have hyes := hid (fun p c d (h : askV k n s p c = 0) => enc_yes (d := d) h)
  have hyes' := hid (fun p c d (h : askV k' n' s' p c = 0) => enc_yes (d := d) h)
  have ct := hid (fun a b ha hb w => rCmpT_any a b ha hb w)
  have q0 := hid (fun p c (h : valE k n s = 0) (h' : valE k' n' s' = 0) h0 => ord_nil (p := p) (c := c) h h' h0)
  have q1 := hid (fun p c (h : valE k n s = 0) (h' : valE k n' s' = 0) h0 h4 => ord_num (p := p) (c := c) h h' h0 h4)
  have q2 := hid (fun p c => ord_text n n' s s' p c)
  have k1 := hid (fun p c => keyB_list k n s p c)
  have k2 := hid (fun p c => keyB_list k' n' s' p c)
  have k3 := hid (fun p c => turnK_list k n s p c)
  have k4 := hid (fun p c => turnK_list k' n' s' p c)
  have z1 := hid (fun p c => keyB_size k n s p c)
  have z2 := hid (fun p c => keyB_size k' n' s' p c)
  have vi := hid (fun (h : valE k n s = 0) => val_in h)
  have vi' := hid (fun (h : valE k' n' s' = 0) => val_in h)
  unfold vV at ce cf cq ⊢
  go_enter Tryd.func4, Tryd.ntmps4
  go_upto_region 1 with fail
  generalize hw_ : (w.alloc (.cells #[.int .i64 k, .int .i64 n, .string s] 23)).alloc (.cells #[.int .i64 k', .int .i64 n', .string s'] 23) = w1
  have hx1 : Ext ((w.alloc (.cells #[.int .i64 k, .int .i64 n, .string s] 23)).alloc (.cells #[.int .i64 k', .int .i64 n', .string s'] 23)) w1 := by rw [hw_]; exact Ext.refl _
  clear hw_
  have b0 : w1.cell? ⟨w.heap.size, 0, none⟩ = some (.int .i64 k) := hx1.cell (by go_simp)
  have b1 : w1.cell? ⟨w.heap.size, 1, none⟩ = some (.int .i64 n) := hx1.cell (by go_simp)
  have b2 : w1.cell? ⟨w.heap.size, 2, none⟩ = some (.string s) := hx1.cell (by go_simp)
  have a0 : w1.cell? ⟨w.heap.size + 1, 0, none⟩ = some (.int .i64 k') := hx1.cell (by go_simp)
  have a1 : w1.cell? ⟨w.heap.size + 1, 1, none⟩ = some (.int .i64 n') := hx1.cell (by go_simp)
  have a2 : w1.cell? ⟨w.heap.size + 1, 2, none⟩ = some (.string s') := hx1.cell (by go_simp)
  have ta : Hid (There w1 w.heap.size 3) := There.ext (There.ext (There.new w #[.int .i64 k, .int .i64 n, .string s] 23 (by simp)) ((Ext.refl _).alloc_right _)) hx1
  have tb : Hid (There w1 (w.heap.size + 1) 3) := There.ext (There.newb (w.alloc (.cells #[.int .i64 k, .int .i64 n, .string s] 23)) #[.int .i64 k', .int .i64 n', .string s'] 23 (n := 3) (b := w.heap.size + 1) (by simp) (by simp)) hx1
  have hE := hid (Ext.trans (((Ext.refl w).alloc_right _).alloc_right _) hx1)
  have lt : w.heap.size < w1.heap.size := World.block_lt_of_cell? w1 _ b0
  have lt2 : w.heap.size + 1 < w1.heap.size := World.block_lt_of_cell? w1 _ a0
  clear hx1
  go_wp2_with fail
  refine (co.out _ _ (fun j hj => by rcases (by omega : j = 0 ∨ j = 1) with rfl | rfl <;> go_simp)).mono ?_
  rintro e w' ⟨⟨b, rfl⟩, rfl⟩
  generalize hw_ : w1.alloc (.cells #[.int .i64 k, .int .i64 n, .string s, .int .i64 k', .int .i64 n', .string s'] 23) = w2
  have hx2 : Ext w1 w2 := by rw [← hw_]; exact (Ext.refl _).alloc_right _
  clear hw_
  replace ta := hid (ta.out.ext hx2)
  replace tb := hid (tb.out.ext hx2)
  replace b0 := hx2.cell b0
  replace b1 := hx2.cell b1
  replace b2 := hx2.cell b2
  replace a0 := hx2.cell a0
  replace a1 := hx2.cell a1
  replace a2 := hx2.cell a2
  replace hE := hid (hE.out.trans hx2)
  clear lt lt2
  have lt : w.heap.size < w2.heap.size := World.block_lt_of_cell? w2 _ b0
  have lt2 : w.heap.size + 1 < w2.heap.size := World.block_lt_of_cell? w2 _ a0
  clear hx2
  cases b with
  | true =>
    go_wp2_with fail
    refine (known_any _ (hm.out.ext hE.out)).mono ?_
    rintro e w3 ⟨rfl, hx3⟩
    go_wp2
    go_ret
    exact ⟨rfl, (hE.out).trans hx3⟩
  | false =>
    go_wp2_with fail
    refine (pg.out _).mono ?_
    rintro e w' ⟨⟨p, c, hco, rfl⟩, rfl⟩
    replace hco := hid hco
    clear pg co
    go_wp2_with fail
    refine (ce.out p c false _ (hm.out.ext hE.out)).mono ?_
    rintro e w3 ⟨rfl, hx3⟩
    replace ta := hid (ta.out.ext hx3)
    replace tb := hid (tb.out.ext hx3)
    replace b0 := hx3.cell b0
    replace b1 := hx3.cell b1
    replace b2 := hx3.cell b2
    replace a0 := hx3.cell a0
    replace a1 := hx3.cell a1
    replace a2 := hx3.cell a2
    replace hE := hid (hE.out.trans hx3)
    clear lt lt2
    have lt : w.heap.size < w3.heap.size := World.block_lt_of_cell? w3 _ b0
    have lt2 : w.heap.size + 1 < w3.heap.size := World.block_lt_of_cell? w3 _ a0
    clear hx3
    go_wp2_with fail
    refine (cf.out p c false _ (hm.out.ext hE.out)).mono ?_
    rintro e w4 ⟨rfl, hx4⟩
    replace ta := hid (ta.out.ext hx4)
    replace tb := hid (tb.out.ext hx4)
    replace b0 := hx4.cell b0
    replace b1 := hx4.cell b1
    replace b2 := hx4.cell b2
    replace a0 := hx4.cell a0
    replace a1 := hx4.cell a1
    replace a2 := hx4.cell a2
    replace hE := hid (hE.out.trans hx4)
    clear lt lt2
    have lt : w.heap.size < w4.heap.size := World.block_lt_of_cell? w4 _ b0
    have lt2 : w.heap.size + 1 < w4.heap.size := World.block_lt_of_cell? w4 _ a0
    clear hx4
    go_wp2_with fail
    refine (ce.out p c true _ (hm.out.ext hE.out)).mono ?_
    rintro e w5 ⟨rfl, hx5⟩
    replace ta := hid (ta.out.ext hx5)
    replace tb := hid (tb.out.ext hx5)
    replace b0 := hx5.cell b0
    replace b1 := hx5.cell b1
    replace b2 := hx5.cell b2
    replace a0 := hx5.cell a0
    replace a1 := hx5.cell a1
    replace a2 := hx5.cell a2
    replace hE := hid (hE.out.trans hx5)
    clear lt lt2
    have lt : w.heap.size < w5.heap.size := World.block_lt_of_cell? w5 _ b0
    have lt2 : w.heap.size + 1 < w5.heap.size := World.block_lt_of_cell? w5 _ a0
    clear hx5
    go_wp2_with fail
    refine (cf.out p c true _ (hm.out.ext hE.out)).mono ?_
    rintro e w6 ⟨rfl, hx6⟩
    replace ta := hid (ta.out.ext hx6)
    replace tb := hid (tb.out.ext hx6)
    replace b0 := hx6.cell b0
    replace b1 := hx6.cell b1
    replace b2 := hx6.cell b2
    replace a0 := hx6.cell a0
    replace a1 := hx6.cell a1
    replace a2 := hx6.cell a2
    replace hE := hid (hE.out.trans hx6)
    clear lt lt2
    have lt : w.heap.size < w6.heap.size := World.block_lt_of_cell? w6 _ b0
    have lt2 : w.heap.size + 1 < w6.heap.size := World.block_lt_of_cell? w6 _ a0
    clear hx6
    clear ce cf
    by_cases he : askV k n s p c = 0
    rotate_left
    · have d1 : (askV k n s p c != 0) = true := by simpa using he
      clear he
      go_wp2_with fail
      refine (known_any _ (hm.out.ext hE.out)).mono ?_
      rintro e w7 ⟨rfl, hx7⟩
      go_wp2
      go_ret
      exact ⟨rfl, (hE.out).trans hx7⟩
    by_cases he' : askV k' n' s' p c = 0
    rotate_left
    · have d1 : (askV k n s p c != 0) = false := by simpa using he
      have d2 : (askV k' n' s' p c != 0) = true := by simpa using he'
      clear he he'
      go_wp2_with fail
      refine (known_any _ (hm.out.ext hE.out)).mono ?_
      rintro e w7 ⟨rfl, hx7⟩
      go_wp2
      go_ret
      exact ⟨rfl, (hE.out).trans hx7⟩
    have hv := (askV_ok he).1
    have hv' := (askV_ok he').1
    rw [hyes.out p c false he, hyes'.out p c false he', hyes.out p c true he, hyes'.out p c true he', turnS_f, turnS_f, he, he']
    have zz1 := z1.out p c
    have zz2 := z2.out p c
    have zz3 := turnS_size true (keyB k n s p c)
    have zz4 := turnS_size true (keyB k' n' s' p c)
    have c1 := hid (fun w => ct.out (keyB k n s p c) (keyB k' n' s' p c) (by omega) (by omega) w)
    have c2 := hid (fun w => ct.out (turnS true (keyB k n s p c)) (turnS true (keyB k' n' s' p c)) (by omega) (by omega) w)
    rw [k1.out, k2.out] at c1
    rw [k3.out, k4.out] at c2
    have co3 := hid (fun w => co2.out p c w)
    rw [ask_pc hco.out (fst_size s) (fst_size s'), show Pg.okI p c [fst48 s, fst48 s'] (Pg.ordS (fst48 s) (fst48 s') p c) = Pg.ordS (fst48 s) (fst48 s') p c by unfold Pg.okI; rw [if_pos (ask_pc hco.out (fst_size s) (fst_size s'))]] at co3
    have q0 := hid (fun h0 => q0.out p c hv hv' h0)
    have q1 := hid (fun (e : k = k') => q1.out p c hv (by rw [e]; exact hv'))
    have q2 := q2.out p c
    have hki := vi.out hv
    have hki' := vi'.out hv'
    have hb : bothE k n (fst48 s) k' n' (fst48 s') = 0 := by unfold bothE; rw [if_neg (by rw [fst_val hv]; simp)]; exact fst_val hv'
    have hcO : cmpO k n (fst48 s) k' n' (fst48 s') = if k ≠ k' ∨ k = 0 then 0 else if k = 4 then Lib.compareBytes (fst48 s).toList (fst48 s').toList else cmpI n n' := by unfold cmpO; rw [if_neg (by rw [hb]; simp)]
    have hcE : cmpE k n (fst48 s) k' n' (fst48 s') = if k ≠ k' ∨ k = 0 then 6 else 0 := by unfold cmpE; rw [if_neg (by rw [hb]; simp)]
    have w1_ := Pg.cmp_rng (kL k n s p c) (kL k' n' s' p c)
    rw [hcO, hcE] at cq
    replace q0 := hid q0.out
    replace q2 := hid q2
    clear he he' hb hcO hcE z1 z2 zz1 zz2 zz3 zz4 k1 k2 k3 k4 co2 hyes hyes' vi vi' ct hv hv' hco
    generalize keyB k n s p c = X at *
    generalize keyB k' n' s' p c = Y at *
    generalize turnS true X = X2 at *
    generalize turnS true Y = Y2 at *
    generalize hC1 : Lib.compareBytes (kL k n s p c) (kL k' n' s' p c) = C1 at *
    generalize hC2 : Lib.compareBytes (turnL (kL k n s p c)) (turnL (kL k' n' s' p c)) = C2 at *
    have hh1 : Hid ((k = 0 ∨ k' = 0) → C1 = cmpI (min k 1) (min k' 1) ∧ C2 = - cmpI (min k 1) (min k' 1)) := fun h0 => q0.out h0
    have hh2 : Hid (k = k' → k ≠ 0 → k ≠ 4 → C1 = cmpI n n' ∧ C2 = - cmpI n n') := by intro e a b; have := q1.out e a b; rw [← hC1, ← hC2, ← e]; exact this
    have hh3 : Hid (k = k' → k = 4 → C1 = Pg.ordS (fst48 s) (fst48 s') p c ∧ C2 = - Pg.ordS (fst48 s) (fst48 s') p c) := by intro e a; have := q2.out; rw [← hC1, ← hC2, ← e, a]; exact this
    clear q0 q1 q2 hC1 hC2
    generalize Pg.ordS (fst48 s) (fst48 s') p c = O at *
    have fa := ta.out.free (o := 2) (by omega)
    have fb := tb.out.free (o := 2) (by omega)
    generalize hS1 : fst48 s = S1 at *
    generalize hS2 : fst48 s' = S2 at *
    have hf1 := hid (fun w => by have := hf.out s w; rw [hS1] at this; exact this)
    have hf2 := hid (fun w => by have := hf.out s' w; rw [hS2] at this; exact this)
    clear hS1 hS2 hf
    by_cases hk0 : k = 0
    · have d3 : (k == 0) = true := by simpa using hk0
      have ci := hid (fun w => rCmpI_any (min k 1) (min k' 1) w)
      generalize (if k ≠ k' ∨ k = 0 then (0 : Int) else if k = 4 then Lib.compareBytes S1.toList S2.toList else cmpI n n') = O1 at cq
      generalize (if k ≠ k' ∨ k = 0 then (6 : Int) else 0) = O2 at cq
      have hcc := hh1.out (Or.inl hk0)
      generalize cmpI (min k 1) (min k' 1) = V at *
      obtain ⟨hc1, hc2⟩ := hcc
      rw [hc1] at c1 w1_
      rw [hc2] at c2
      obtain ⟨v1, v2⟩ := w1_
      clear hc1 hc2 hh1 hh2 hh3
      have ew : wrap64 (-V) = -V := IntWalk.wrap64_in _ ⟨by omega, by omega⟩
      clear hk0 hki hki' co3
      go_upto_region 10 with fail
      go_region_with (go_at_call 20; first | (refine (hf1.out _).mono ?_; rintro e w' ⟨rfl, rfl⟩) | (refine (hf2.out _).mono ?_; rintro e w' ⟨rfl, rfl⟩))
      all_goals
        generalize hw_ : ((w6.setCell ⟨w.heap.size, 2, none⟩ (.string S1)).setCell ⟨w.heap.size + 1, 2, none⟩ (.string S2)).drew = w9
        have e0 : w9.cell? ⟨w.heap.size, 0, none⟩ = some (.int .i64 k) := by rw [← hw_]; exact set_keep (set_keep b0 (off_ne (by decide))) (blk_ne (by omega))
        have e1 : w9.cell? ⟨w.heap.size, 1, none⟩ = some (.int .i64 n) := by rw [← hw_]; exact set_keep (set_keep b1 (off_ne (by decide))) (blk_ne (by omega))
        have e2 : w9.cell? ⟨w.heap.size, 2, none⟩ = some (.string S1) := by rw [← hw_]; exact set_keep (set_get b2) (blk_ne (by omega))
        have g0 : w9.cell? ⟨w.heap.size + 1, 0, none⟩ = some (.int .i64 k') := by rw [← hw_]; exact set_keep (set_keep a0 (blk_ne (by omega))) (off_ne (by decide))
        have g1 : w9.cell? ⟨w.heap.size + 1, 1, none⟩ = some (.int .i64 n') := by rw [← hw_]; exact set_keep (set_keep a1 (blk_ne (by omega))) (off_ne (by decide))
        have g2 : w9.cell? ⟨w.heap.size + 1, 2, none⟩ = some (.string S2) := by rw [← hw_]; exact set_get (set_keep a2 (blk_ne (by omega)))
        replace hE : Hid (Ext w w9) := by rw [← hw_]; exact ((hE.out.set (by simp) _).set (by simp) _).drew_right
        clear hw_ b0 b1 b2 a0 a1 a2 ta tb fa fb lt lt2 hf1 hf2
        have lt : w.heap.size < w9.heap.size := World.block_lt_of_cell? w9 _ e0
        have lt2 : w.heap.size + 1 < w9.heap.size := World.block_lt_of_cell? w9 _ g0
        go_wp2_with fail
        refine (cq.out _).mono ?_
        rintro e w10 ⟨rfl, hx10⟩
        replace e0 := hx10.cell e0
        replace e1 := hx10.cell e1
        replace e2 := hx10.cell e2
        replace g0 := hx10.cell g0
        replace g1 := hx10.cell g1
        replace g2 := hx10.cell g2
        replace hE := hid (hE.out.trans hx10)
        clear lt lt2
        have lt : w.heap.size < w10.heap.size := World.block_lt_of_cell? w10 _ e0
        have lt2 : w.heap.size + 1 < w10.heap.size := World.block_lt_of_cell? w10 _ g0
        clear hx10 cq
        go_wp2_with fail
        refine (ci.out _).mono ?_
        rintro e w' ⟨rfl, rfl⟩
        go_wp2_with fail
        refine (c1.out _).mono ?_
        rintro e w11 ⟨rfl, hx11⟩
        replace hE := hid (hE.out.trans hx11)
        clear hx11
        go_wp2_with fail
        refine (c2.out _).mono ?_
        rintro e w12 ⟨rfl, hx12⟩
        replace hE := hid (hE.out.trans hx12)
        clear hx12
        go_wp2_with fail
        refine (known_any _ (hm.out.ext hE.out)).mono ?_
        rintro e w13 ⟨rfl, hx13⟩
        go_wp2
        go_ret
        exact ⟨rfl, (hE.out).trans hx13⟩
    by_cases hk0' : k' = 0
    · have d3 : (k == 0) = false := by simpa using hk0
      have d4 : (k' == 0) = true := by simpa using hk0'
      have ci := hid (fun w => rCmpI_any (min k 1) (min k' 1) w)
      generalize (if k ≠ k' ∨ k = 0 then (0 : Int) else if k = 4 then Lib.compareBytes S1.toList S2.toList else cmpI n n') = O1 at cq
      generalize (if k ≠ k' ∨ k = 0 then (6 : Int) else 0) = O2 at cq
      have hcc := hh1.out (Or.inr hk0')
      generalize cmpI (min k 1) (min k' 1) = V at *
      obtain ⟨hc1, hc2⟩ := hcc
      rw [hc1] at c1 w1_
      rw [hc2] at c2
      obtain ⟨v1, v2⟩ := w1_
      clear hc1 hc2 hh1 hh2 hh3
      have ew : wrap64 (-V) = -V := IntWalk.wrap64_in _ ⟨by omega, by omega⟩
      clear hk0 hk0' hki hki' co3
      go_upto_region 10 with fail
      go_region_with (go_at_call 20; first | (refine (hf1.out _).mono ?_; rintro e w' ⟨rfl, rfl⟩) | (refine (hf2.out _).mono ?_; rintro e w' ⟨rfl, rfl⟩))
      all_goals
        generalize hw_ : ((w6.setCell ⟨w.heap.size, 2, none⟩ (.string S1)).setCell ⟨w.heap.size + 1, 2, none⟩ (.string S2)).drew = w9
        have e0 : w9.cell? ⟨w.heap.size, 0, none⟩ = some (.int .i64 k) := by rw [← hw_]; exact set_keep (set_keep b0 (off_ne (by decide))) (blk_ne (by omega))
        have e1 : w9.cell? ⟨w.heap.size, 1, none⟩ = some (.int .i64 n) := by rw [← hw_]; exact set_keep (set_keep b1 (off_ne (by decide))) (blk_ne (by omega))
        have e2 : w9.cell? ⟨w.heap.size, 2, none⟩ = some (.string S1) := by rw [← hw_]; exact set_keep (set_get b2) (blk_ne (by omega))
        have g0 : w9.cell? ⟨w.heap.size + 1, 0, none⟩ = some (.int .i64 k') := by rw [← hw_]; exact set_keep (set_keep a0 (blk_ne (by omega))) (off_ne (by decide))
        have g1 : w9.cell? ⟨w.heap.size + 1, 1, none⟩ = some (.int .i64 n') := by rw [← hw_]; exact set_keep (set_keep a1 (blk_ne (by omega))) (off_ne (by decide))
        have g2 : w9.cell? ⟨w.heap.size + 1, 2, none⟩ = some (.string S2) := by rw [← hw_]; exact set_get (set_keep a2 (blk_ne (by omega)))
        replace hE : Hid (Ext w w9) := by rw [← hw_]; exact ((hE.out.set (by simp) _).set (by simp) _).drew_right
        clear hw_ b0 b1 b2 a0 a1 a2 ta tb fa fb lt lt2 hf1 hf2
        have lt : w.heap.size < w9.heap.size := World.block_lt_of_cell? w9 _ e0
        have lt2 : w.heap.size + 1 < w9.heap.size := World.block_lt_of_cell? w9 _ g0
        go_wp2_with fail
        refine (cq.out _).mono ?_
        rintro e w10 ⟨rfl, hx10⟩
        replace e0 := hx10.cell e0
        replace e1 := hx10.cell e1
        replace e2 := hx10.cell e2
        replace g0 := hx10.cell g0
        replace g1 := hx10.cell g1
        replace g2 := hx10.cell g2
        replace hE := hid (hE.out.trans hx10)
        clear lt lt2
        have lt : w.heap.size < w10.heap.size := World.block_lt_of_cell? w10 _ e0
        have lt2 : w.heap.size + 1 < w10.heap.size := World.block_lt_of_cell? w10 _ g0
        clear hx10 cq
        go_wp2_with fail
        refine (ci.out _).mono ?_
        rintro e w' ⟨rfl, rfl⟩
        go_wp2_with fail
        refine (c1.out _).mono ?_
        rintro e w11 ⟨rfl, hx11⟩
        replace hE := hid (hE.out.trans hx11)
        clear hx11
        go_wp2_with fail
        refine (c2.out _).mono ?_
        rintro e w12 ⟨rfl, hx12⟩
        replace hE := hid (hE.out.trans hx12)
        clear hx12
        go_wp2_with fail
        refine (known_any _ (hm.out.ext hE.out)).mono ?_
        rintro e w13 ⟨rfl, hx13⟩
        go_wp2
        go_ret
        exact ⟨rfl, (hE.out).trans hx13⟩
    by_cases hkk : k ≠ k'
    · have d3 : (k == 0) = false := by simpa using hk0
      have d4 : (k' == 0) = false := by simpa using hk0'
      rw [if_pos (Or.inl hkk), if_pos (Or.inl hkk)] at cq
      clear hk0 hk0' hki hki' hkk hh1 hh2 hh3 co3 c1 c2 w1_
      go_upto_region 10 with fail
      go_region_with (go_at_call 20; first | (refine (hf1.out _).mono ?_; rintro e w' ⟨rfl, rfl⟩) | (refine (hf2.out _).mono ?_; rintro e w' ⟨rfl, rfl⟩))
      all_goals
        generalize hw_ : ((w6.setCell ⟨w.heap.size, 2, none⟩ (.string S1)).setCell ⟨w.heap.size + 1, 2, none⟩ (.string S2)).drew = w9
        have e0 : w9.cell? ⟨w.heap.size, 0, none⟩ = some (.int .i64 k) := by rw [← hw_]; exact set_keep (set_keep b0 (off_ne (by decide))) (blk_ne (by omega))
        have e1 : w9.cell? ⟨w.heap.size, 1, none⟩ = some (.int .i64 n) := by rw [← hw_]; exact set_keep (set_keep b1 (off_ne (by decide))) (blk_ne (by omega))
        have e2 : w9.cell? ⟨w.heap.size, 2, none⟩ = some (.string S1) := by rw [← hw_]; exact set_keep (set_get b2) (blk_ne (by omega))
        have g0 : w9.cell? ⟨w.heap.size + 1, 0, none⟩ = some (.int .i64 k') := by rw [← hw_]; exact set_keep (set_keep a0 (blk_ne (by omega))) (off_ne (by decide))
        have g1 : w9.cell? ⟨w.heap.size + 1, 1, none⟩ = some (.int .i64 n') := by rw [← hw_]; exact set_keep (set_keep a1 (blk_ne (by omega))) (off_ne (by decide))
        have g2 : w9.cell? ⟨w.heap.size + 1, 2, none⟩ = some (.string S2) := by rw [← hw_]; exact set_get (set_keep a2 (blk_ne (by omega)))
        replace hE : Hid (Ext w w9) := by rw [← hw_]; exact ((hE.out.set (by simp) _).set (by simp) _).drew_right
        clear hw_ b0 b1 b2 a0 a1 a2 ta tb fa fb lt lt2 hf1 hf2
        have lt : w.heap.size < w9.heap.size := World.block_lt_of_cell? w9 _ e0
        have lt2 : w.heap.size + 1 < w9.heap.size := World.block_lt_of_cell? w9 _ g0
        go_wp2_with fail
        refine (cq.out _).mono ?_
        rintro e w10 ⟨rfl, hx10⟩
        replace e0 := hx10.cell e0
        replace e1 := hx10.cell e1
        replace e2 := hx10.cell e2
        replace g0 := hx10.cell g0
        replace g1 := hx10.cell g1
        replace g2 := hx10.cell g2
        replace hE := hid (hE.out.trans hx10)
        clear lt lt2
        have lt : w.heap.size < w10.heap.size := World.block_lt_of_cell? w10 _ e0
        have lt2 : w.heap.size + 1 < w10.heap.size := World.block_lt_of_cell? w10 _ g0
        clear hx10 cq
        go_wp2_with fail
        refine (known_any _ (hm.out.ext hE.out)).mono ?_
        rintro e w11 ⟨rfl, hx11⟩
        go_wp2
        go_ret
        exact ⟨rfl, (hE.out).trans hx11⟩
    by_cases hk4 : k = 4
    · have d3 : (k == 0) = false := by simpa using hk0
      have d4 : (k' == 0) = false := by simpa using hk0'
      have d5 : (k == 4) = true := by simpa using hk4
      have hne : ¬ (k ≠ k' ∨ k = 0) := by omega
      rw [if_neg hne, if_neg hne, if_pos hk4] at cq
      clear hne
      generalize Lib.compareBytes S1.toList S2.toList = O1 at cq
      have hcc := hh3.out (by omega) hk4
      generalize O = V at *
      obtain ⟨hc1, hc2⟩ := hcc
      rw [hc1] at c1 w1_
      rw [hc2] at c2
      obtain ⟨v1, v2⟩ := w1_
      clear hc1 hc2 hh1 hh2 hh3
      have ew : wrap64 (-V) = -V := IntWalk.wrap64_in _ ⟨by omega, by omega⟩
      clear hk0 hk0' hki hki' hk4
      go_upto_region 10 with fail
      go_region_with (go_at_call 20; first | (refine (hf1.out _).mono ?_; rintro e w' ⟨rfl, rfl⟩) | (refine (hf2.out _).mono ?_; rintro e w' ⟨rfl, rfl⟩))
      all_goals
        generalize hw_ : ((w6.setCell ⟨w.heap.size, 2, none⟩ (.string S1)).setCell ⟨w.heap.size + 1, 2, none⟩ (.string S2)).drew = w9
        have e0 : w9.cell? ⟨w.heap.size, 0, none⟩ = some (.int .i64 k) := by rw [← hw_]; exact set_keep (set_keep b0 (off_ne (by decide))) (blk_ne (by omega))
        have e1 : w9.cell? ⟨w.heap.size, 1, none⟩ = some (.int .i64 n) := by rw [← hw_]; exact set_keep (set_keep b1 (off_ne (by decide))) (blk_ne (by omega))
        have e2 : w9.cell? ⟨w.heap.size, 2, none⟩ = some (.string S1) := by rw [← hw_]; exact set_keep (set_get b2) (blk_ne (by omega))
        have g0 : w9.cell? ⟨w.heap.size + 1, 0, none⟩ = some (.int .i64 k') := by rw [← hw_]; exact set_keep (set_keep a0 (blk_ne (by omega))) (off_ne (by decide))
        have g1 : w9.cell? ⟨w.heap.size + 1, 1, none⟩ = some (.int .i64 n') := by rw [← hw_]; exact set_keep (set_keep a1 (blk_ne (by omega))) (off_ne (by decide))
        have g2 : w9.cell? ⟨w.heap.size + 1, 2, none⟩ = some (.string S2) := by rw [← hw_]; exact set_get (set_keep a2 (blk_ne (by omega)))
        replace hE : Hid (Ext w w9) := by rw [← hw_]; exact ((hE.out.set (by simp) _).set (by simp) _).drew_right
        clear hw_ b0 b1 b2 a0 a1 a2 ta tb fa fb lt lt2 hf1 hf2
        have lt : w.heap.size < w9.heap.size := World.block_lt_of_cell? w9 _ e0
        have lt2 : w.heap.size + 1 < w9.heap.size := World.block_lt_of_cell? w9 _ g0
        go_wp2_with fail
        refine (cq.out _).mono ?_
        rintro e w10 ⟨rfl, hx10⟩
        replace e0 := hx10.cell e0
        replace e1 := hx10.cell e1
        replace e2 := hx10.cell e2
        replace g0 := hx10.cell g0
        replace g1 := hx10.cell g1
        replace g2 := hx10.cell g2
        replace hE := hid (hE.out.trans hx10)
        clear lt lt2
        have lt : w.heap.size < w10.heap.size := World.block_lt_of_cell? w10 _ e0
        have lt2 : w.heap.size + 1 < w10.heap.size := World.block_lt_of_cell? w10 _ g0
        clear hx10 cq
        go_wp2_with fail
        refine (co3.out _).mono ?_
        rintro e w14 ⟨rfl, hx14⟩
        replace hE := hid (hE.out.trans hx14)
        clear hx14
        go_wp2_with fail
        refine (c1.out _).mono ?_
        rintro e w11 ⟨rfl, hx11⟩
        replace hE := hid (hE.out.trans hx11)
        clear hx11
        go_wp2_with fail
        refine (c2.out _).mono ?_
        rintro e w12 ⟨rfl, hx12⟩
        replace hE := hid (hE.out.trans hx12)
        clear hx12
        go_wp2_with fail
        refine (known_any _ (hm.out.ext hE.out)).mono ?_
        rintro e w13 ⟨rfl, hx13⟩
        go_wp2
        go_ret
        exact ⟨rfl, (hE.out).trans hx13⟩
    · have d3 : (k == 0) = false := by simpa using hk0
      have d4 : (k' == 0) = false := by simpa using hk0'
      have d5 : (k == 4) = false := by simpa using hk4
      have hne : ¬ (k ≠ k' ∨ k = 0) := by omega
      rw [if_neg hne, if_neg hne, if_neg hk4] at cq
      clear hne
      have hcc := hh2.out (by omega) hk0 hk4
      generalize cmpI n n' = V at *
      obtain ⟨hc1, hc2⟩ := hcc
      rw [hc1] at c1 w1_
      rw [hc2] at c2
      obtain ⟨v1, v2⟩ := w1_
      clear hc1 hc2 hh1 hh2 hh3
      have ew : wrap64 (-V) = -V := IntWalk.wrap64_in _ ⟨by omega, by omega⟩
      clear hk0 hk0' hki hki' hk4 hkk co3
      go_upto_region 10 with fail
      go_region_with (go_at_call 20; first | (refine (hf1.out _).mono ?_; rintro e w' ⟨rfl, rfl⟩) | (refine (hf2.out _).mono ?_; rintro e w' ⟨rfl, rfl⟩))
      all_goals
        generalize hw_ : ((w6.setCell ⟨w.heap.size, 2, none⟩ (.string S1)).setCell ⟨w.heap.size + 1, 2, none⟩ (.string S2)).drew = w9
        have e0 : w9.cell? ⟨w.heap.size, 0, none⟩ = some (.int .i64 k) := by rw [← hw_]; exact set_keep (set_keep b0 (off_ne (by decide))) (blk_ne (by omega))
        have e1 : w9.cell? ⟨w.heap.size, 1, none⟩ = some (.int .i64 n) := by rw [← hw_]; exact set_keep (set_keep b1 (off_ne (by decide))) (blk_ne (by omega))
        have e2 : w9.cell? ⟨w.heap.size, 2, none⟩ = some (.string S1) := by rw [← hw_]; exact set_keep (set_get b2) (blk_ne (by omega))
        have g0 : w9.cell? ⟨w.heap.size + 1, 0, none⟩ = some (.int .i64 k') := by rw [← hw_]; exact set_keep (set_keep a0 (blk_ne (by omega))) (off_ne (by decide))
        have g1 : w9.cell? ⟨w.heap.size + 1, 1, none⟩ = some (.int .i64 n') := by rw [← hw_]; exact set_keep (set_keep a1 (blk_ne (by omega))) (off_ne (by decide))
        have g2 : w9.cell? ⟨w.heap.size + 1, 2, none⟩ = some (.string S2) := by rw [← hw_]; exact set_get (set_keep a2 (blk_ne (by omega)))
        replace hE : Hid (Ext w w9) := by rw [← hw_]; exact ((hE.out.set (by simp) _).set (by simp) _).drew_right
        clear hw_ b0 b1 b2 a0 a1 a2 ta tb fa fb lt lt2 hf1 hf2
        have lt : w.heap.size < w9.heap.size := World.block_lt_of_cell? w9 _ e0
        have lt2 : w.heap.size + 1 < w9.heap.size := World.block_lt_of_cell? w9 _ g0
        go_wp2_with fail
        refine (cq.out _).mono ?_
        rintro e w10 ⟨rfl, hx10⟩
        replace e0 := hx10.cell e0
        replace e1 := hx10.cell e1
        replace e2 := hx10.cell e2
        replace g0 := hx10.cell g0
        replace g1 := hx10.cell g1
        replace g2 := hx10.cell g2
        replace hE := hid (hE.out.trans hx10)
        clear lt lt2
        have lt : w.heap.size < w10.heap.size := World.block_lt_of_cell? w10 _ e0
        have lt2 : w.heap.size + 1 < w10.heap.size := World.block_lt_of_cell? w10 _ g0
        clear hx10 cq
        go_wp2_with fail
        refine (c1.out _).mono ?_
        rintro e w11 ⟨rfl, hx11⟩
        replace hE := hid (hE.out.trans hx11)
        clear hx11
        go_wp2_with fail
        refine (c2.out _).mono ?_
        rintro e w12 ⟨rfl, hx12⟩
        replace hE := hid (hE.out.trans hx12)
        clear hx12
        go_wp2_with fail
        refine (known_any _ (hm.out.ext hE.out)).mono ?_
        rintro e w13 ⟨rfl, hx13⟩
        go_wp2
        go_ret
        exact ⟨rfl, (hE.out).trans hx13⟩
end Go.Proofs.YtlfanhlkoepodaaDoor
