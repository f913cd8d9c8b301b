/-
  The law of the ranges of keys.
-/
import Derived.Test.YtlfanhlkoepodaaDoorK40
import Derived.Test.YtlfanhlkoepodaaDoorK24
import Derived.Test.YtlfanhlkoepodaaDoorK9
import Derived.Deep.RegionHeld3
namespace Go.Proofs.YtlfanhlkoepodaaDoor
open Go.RowKit
set_option linter.unusedVariables false
set_option linter.unusedSimpArgs false
theorem trnL_list (h : ByteArray) : (trnL h).toList = behG (turnL h.toList) := by unfold trnL; rw [behS_list, strB_toList]
theorem trnL_size (h : ByteArray) : (trnL h).size ≤ h.size := by
  unfold trnL
  have := behS_size (strB (turnL h.toList))
  rw [strB_size, turnL_len, len_toList] at this
  exact this
theorem rng_in {o : Nat} {k n n' : Int} {s s' : ByteArray} {ex b su : Bool} {p c : Int} {fit : Prop} (G : Good (kL k n' s' p c) (bnd o k n s ex p c).1.toList (bnd o k n s ex p c).2.toList b su fit) (dn : Bool) :
    inB (turnS dn (keyB k n' s' p c)) (dnL dn (bnd o k n s ex p c)) (dnH dn (bnd o k n s ex p c)) = true ↔ isIn (kL k n' s' p c) (bnd o k n s ex p c).1.toList (bnd o k n s ex p c).2.toList := by
  rw [inB_iff]
  cases dn with
  | false => rw [turnS_f, keyB_list]; exact Iff.rfl
  | true =>
    rw [turnK_list, show dnL true (bnd o k n s ex p c) = trnL (bnd o k n s ex p c).2 from rfl, show dnH true (bnd o k n s ex p c) = trnL (bnd o k n s ex p c).1 from rfl, trnL_list, trnL_list]
    obtain ⟨_, _, g1, g2, h, t, e, hh⟩ := G
    rw [e] at g2 ⊢
    exact turn_in hh g1 g2
theorem dn_size (dn : Bool) (o : Nat) (k n : Int) (s : ByteArray) (x : Bool) (p c : Int) : (dnL dn (bnd o k n s x p c)).size ≤ 100 ∧ (dnH dn (bnd o k n s x p c)).size ≤ 100 := by
  have h := bnd_size o k n s x p c
  have h1 := trnL_size (bnd o k n s x p c).1
  have h2 := trnL_size (bnd o k n s x p c).2
  cases dn with
  | false => exact h
  | true => exact ⟨by show (trnL _).size ≤ 100; omega, by show (trnL _).size ≤ 100; omega⟩
theorem ops_at {o : Nat} (h : o < 6) : Pg.sth opsL o = opB o := by
  have : o = 0 ∨ o = 1 ∨ o = 2 ∨ o = 3 ∨ o = 4 ∨ o = 5 := by omega
  rcases this with rfl | rfl | rfl | rfl | rfl | rfl <;> rfl
theorem op_size {o : Nat} (h : o < 6) : (opB o).size ≤ 40000 := by
  have : o = 0 ∨ o = 1 ∨ o = 2 ∨ o = 3 ∨ o = 4 ∨ o = 5 := by omega
  rcases this with rfl | rfl | rfl | rfl | rfl | rfl <;> decide
theorem ask_co {p c : Int} (h : Co p c) : askP p c = 0 := by
  unfold askP
  have h1 := h.1
  have h2 := h.2
  unfold Pg.Pg at h1
  rcases h1 with rfl | rfl | rfl <;> rcases h2 with rfl | rfl <;> decide
theorem tmod_in (n : Int) : -5 ≤ n.tmod 6 ∧ n.tmod 6 ≤ 5 := by
  rcases Int.le_total 0 n with h | h
  · rw [Int.tmod_eq_emod_of_nonneg h]; omega
  · have := Int.neg_tmod (-n) 6
    rw [Int.neg_neg] at this
    rw [this, Int.tmod_eq_emod_of_nonneg (by omega)]
    omega
set_option maxRecDepth 100000 in
set_option maxHeartbeats 20000000 in
theorem ranges_law (k n : Int) (s : ByteArray) (k' n' : Int) (s' : ByteArray) (x0 x1 x2 x3 : Int) (w : World) (hw1 : (Lit.int .i64 k).wf = true) (hw2 : (Lit.int .i64 n).wf = true) (hs : s.size ≤ maxLen) (hw3 : (Lit.int .i64 k').wf = true) (hw4 : (Lit.int .i64 n').wf = true) (hs' : s'.size ≤ maxLen) (v0 : (Lit.int .i64 x0).wf = true) (v1 : (Lit.int .i64 x1).wf = true) (v2 : (Lit.int .i64 x2).wf = true) (v3 : (Lit.int .i64 x3).wf = true) (hm : ML w) : Calls Tryd.prog 13 #[vV k n s, vV k' n' s', .agg #[.int .i64 x0, .int .i64 x1, .int .i64 x2, .int .i64 x3]] w (Give (.bool true) w) := by
  replace hm := hid hm
  clear hw1 hw2 hw3 hw4 v0 v2 v3
  have co := hid (fun g w H => over_any (fun j => if j = 0 then s else s') 2 g (by omega) w H)
  have pg := hid (fun w => page_any x1 (wf_in v1) w)
  clear v1
  have cp := hid (fun w => opers_any w)
  have t1 := tmod_in x0
  have t2 := tmod_in (x0.tmod 6 + 6)
  have t3 : 0 ≤ (x0.tmod 6 + 6).tmod 6 := by rw [Int.tmod_eq_emod_of_nonneg (by omega)]; omega
  obtain ⟨o, hob⟩ : ∃ o : Nat, ((x0.tmod 6 + 6).tmod 6).toNat = o := ⟨_, rfl⟩
  have ho : o < 6 := by omega
  replace hob := hid hob
  have ew2 : IntKind.i64.wrap (x0.tmod 6 + 6) = x0.tmod 6 + 6 := IntWalk.i64_in _ (by omega)
  have ez2 : wrap64 (x0.tmod 6 + 6) = x0.tmod 6 + 6 := IntWalk.wrap64_in _ ⟨by omega, by omega⟩
  have j1 : (x0.tmod 6 + 6).tmod 6 < 6 := by omega
  have j2 : (x0.tmod 6 + 6).tmod 6 ≤ 6 := by omega
  clear t1 t2
  have cn := hid (fun p c ex d he w hm => Range_no (opB o) k n s ex p c d (op_size ho) he w hm)
  have cy := hid (fun p c ex d he hk w hm => Range_yes o ho k n s ex p c d he hk w hm)
  have cv := hid (fun w => rValidate_any k n s w)
  have cv' := hid (fun w => rValidate_any k' n' s' w)
  have q4 := op_eq ho
  unfold vV at cn cy cv cv' ⊢
  go_enter Tryd.func13, Tryd.ntmps13
  go_upto_region 1 with fail
  generalize hw_ : ((w.alloc (.cells #[.int .i64 k, .int .i64 n, .string s] 23)).alloc (.cells #[.int .i64 k', .int .i64 n', .string s'] 23)).alloc (.cells #[.int .i64 x0, .int .i64 x1, .int .i64 x2, .int .i64 x3] 71) = w1
  have hx1 : Ext (((w.alloc (.cells #[.int .i64 k, .int .i64 n, .string s] 23)).alloc (.cells #[.int .i64 k', .int .i64 n', .string s'] 23)).alloc (.cells #[.int .i64 x0, .int .i64 x1, .int .i64 x2, .int .i64 x3] 71)) w1 := by rw [hw_]; exact Ext.refl _
  clear hw_
  have a0 : w1.cell? ⟨w.heap.size, 0, none⟩ = some (.int .i64 k) := hx1.cell (by go_simp)
  have a1 : w1.cell? ⟨w.heap.size, 1, none⟩ = some (.int .i64 n) := hx1.cell (by go_simp)
  have a2 : w1.cell? ⟨w.heap.size, 2, none⟩ = some (.string s) := hx1.cell (by go_simp)
  have b0 : w1.cell? ⟨w.heap.size + 1, 0, none⟩ = some (.int .i64 k') := hx1.cell (by go_simp)
  have b1 : w1.cell? ⟨w.heap.size + 1, 1, none⟩ = some (.int .i64 n') := hx1.cell (by go_simp)
  have b2 : w1.cell? ⟨w.heap.size + 1, 2, none⟩ = some (.string s') := hx1.cell (by go_simp)
  have r0 : w1.cell? ⟨w.heap.size + 1 + 1, 0, none⟩ = some (.int .i64 x0) := hx1.cell (by go_simp)
  have r1 : w1.cell? ⟨w.heap.size + 1 + 1, 1, none⟩ = some (.int .i64 x1) := hx1.cell (by go_simp)
  have r2 : w1.cell? ⟨w.heap.size + 1 + 1, 2, none⟩ = some (.int .i64 x2) := hx1.cell (by go_simp)
  have r3 : w1.cell? ⟨w.heap.size + 1 + 1, 3, none⟩ = some (.int .i64 x3) := hx1.cell (by go_simp)
  have hE := hid (Ext.trans ((((Ext.refl w).alloc_right _).alloc_right _).alloc_right _) hx1)
  have lt : w.heap.size < w1.heap.size := World.block_lt_of_cell? w1 _ a0
  have lt2 : w.heap.size + 1 < w1.heap.size := World.block_lt_of_cell? w1 _ b0
  have lt3 : w.heap.size + 1 + 1 < w1.heap.size := World.block_lt_of_cell? w1 _ r0
  clear hx1
  go_wp2_with fail
  refine (co.out _ _ (fun j hj => by rcases (by omega : j = 0 ∨ j = 1) with rfl | rfl <;> go_simp)).mono ?_
  rintro e w' ⟨⟨b, rfl⟩, rfl⟩
  generalize hw_ : w1.alloc (.cells #[.int .i64 k, .int .i64 n, .string s, .int .i64 k', .int .i64 n', .string s'] 23) = w2
  have hx : Ext w1 w2 := by rw [← hw_]; exact (Ext.refl _).alloc_right _
  clear hw_ co
  replace a0 := hx.cell a0
  replace a1 := hx.cell a1
  replace a2 := hx.cell a2
  replace b0 := hx.cell b0
  replace b1 := hx.cell b1
  replace b2 := hx.cell b2
  replace r0 := hx.cell r0
  replace r1 := hx.cell r1
  replace r2 := hx.cell r2
  replace r3 := hx.cell r3
  replace hE := hid (hE.out.trans hx)
  clear hx lt lt2 lt3
  have lt := World.block_lt_of_cell? w2 _ a0
  have lt2 := World.block_lt_of_cell? w2 _ b0
  have lt3 := World.block_lt_of_cell? w2 _ r0
  cases b with
  | true =>
    go_wp2_with fail
    refine (known_any _ (hm.out.ext hE.out)).mono ?_
    rintro e w9 ⟨rfl, hx9⟩
    go_wp2
    go_ret
    exact ⟨rfl, hE.out.trans hx9⟩
  | false =>
    go_wp2_with fail
    refine (pg.out _).mono ?_
    rintro e w' ⟨⟨p, c, hco, rfl⟩, rfl⟩
    replace hco := hid hco
    clear pg
    replace cn := hid (fun ex d he w hm => cn.out p c ex d he w hm)
    replace cy := hid (fun ex d he hk w hm => cy.out p c ex d he hk w hm)
    go_wp2_with fail
    go_quiet (fail)
    generalize (x2 == 1) = ex at *
    generalize (x3 == 1) = dn at *
    replace cn := hid (fun he w hm => cn.out ex dn he w hm)
    replace cy := hid (fun he hk w hm => cy.out ex dn he hk w hm)
    have hx : Ext w2 (w2.drewN nq) := (Ext.refl w2).drewN_right nq
    generalize w2.drewN nq = w3 at *
    replace a0 := hx.cell a0
    replace a1 := hx.cell a1
    replace a2 := hx.cell a2
    replace b0 := hx.cell b0
    replace b1 := hx.cell b1
    replace b2 := hx.cell b2
    replace r0 := hx.cell r0
    replace r1 := hx.cell r1
    replace r2 := hx.cell r2
    replace r3 := hx.cell r3
    replace hE := hid (hE.out.trans hx)
    clear hx lt lt2 lt3
    have lt := World.block_lt_of_cell? w3 _ a0
    have lt2 := World.block_lt_of_cell? w3 _ b0
    have lt3 := World.block_lt_of_cell? w3 _ r0
    go_wp2_with fail
    go_region_with ((go_at_call 48; refine (cp.out _).mono ?_; rintro e w6 ⟨A, rfl, hA, hx6⟩; obtain ⟨ad, rfl, y0⟩ := Pg.RdS.at_ hA (k := ((x0.tmod 6 + 6).tmod 6).toNat) (by rw [hob.out]; exact ho); rw [show Pg.sth opsL ((x0.tmod 6 + 6).tmod 6).toNat = opB o by rw [hob.out]; exact ops_at ho] at y0; have r6 : w6.cell? ⟨w.heap.size + 1 + 1, 0, none⟩ = some (.int .i64 x0) := hx6.cell (by go_simp); have l6 := World.block_lt_of_cell? w6 _ r6))
    all_goals
      have hx : Ext w3 w6 := (Ext.refl w3).drew_right.trans hx6
      clear hx6 y0 hA r6 l6 r0 r1 r2 r3 lt3 cp
      replace a0 := hx.cell a0
      replace a1 := hx.cell a1
      replace a2 := hx.cell a2
      replace b0 := hx.cell b0
      replace b1 := hx.cell b1
      replace b2 := hx.cell b2
      replace hE := hid (hE.out.trans hx)
      clear hx lt lt2
      have lt := World.block_lt_of_cell? w6 _ a0
      have lt2 := World.block_lt_of_cell? w6 _ b0
      clear ew2 ez2 j1 j2 t3 hob
      by_cases hv : valE k n s = 0
      rotate_left
      · have hr : rngE (opB o) k n s p c = valE k n s := by unfold rngE; rw [if_pos (by rw [askV_no hv]; exact hv), askV_no hv]
        have cr := hid (cn.out (by rw [hr]; exact hv))
        rw [hr] at cr
        have d2 : (valE k n s != 0) = true := by simpa using hv
        clear hr hv cn cy cv' hco q4 ho
        generalize valE k n s = E at *
        generalize opB o = op at *
        go_wp2_with fail
        refine (cr.out _ (hm.out.ext hE.out)).mono ?_
        rintro e w7 ⟨rfl, hx⟩
        replace a0 := hx.cell a0
        replace a1 := hx.cell a1
        replace a2 := hx.cell a2
        replace b0 := hx.cell b0
        replace b1 := hx.cell b1
        replace b2 := hx.cell b2
        replace hE := hid (hE.out.trans hx)
        clear hx lt lt2
        have lt := World.block_lt_of_cell? w7 _ a0
        have lt2 := World.block_lt_of_cell? w7 _ b0
        go_wp2_with fail
        refine (cv.out _).mono ?_
        rintro e w8 ⟨rfl, hx⟩
        replace a0 := hx.cell a0
        replace a1 := hx.cell a1
        replace a2 := hx.cell a2
        replace b0 := hx.cell b0
        replace b1 := hx.cell b1
        replace b2 := hx.cell b2
        replace hE := hid (hE.out.trans hx)
        clear hx lt lt2
        have lt := World.block_lt_of_cell? w8 _ a0
        have lt2 := World.block_lt_of_cell? w8 _ b0
        go_wp2_with fail
        refine (known_any _ (hm.out.ext hE.out)).mono ?_
        rintro e w9 ⟨rfl, hx9⟩
        go_wp2
        go_ret
        exact ⟨rfl, hE.out.trans hx9⟩
      have hq := (askV_yes (p := p) (c := c) hv).trans (ask_co hco.out)
      by_cases hk : k = 0
      · have hr : rngE (opB o) k n s p c = 6 := by unfold rngE; rw [hq, if_neg (by decide), isOp_op ho, if_neg (by decide), if_pos hk]
        have cr := hid (cn.out (by rw [hr]; decide))
        rw [hr] at cr
        rw [hv] at cv
        have k0 : (k == 0) = true := by simpa using hk
        clear hr hv hq hk cn cy cv' hco q4 ho
        generalize opB o = op at *
        go_wp2_with fail
        refine (cr.out _ (hm.out.ext hE.out)).mono ?_
        rintro e w7 ⟨rfl, hx⟩
        replace a0 := hx.cell a0
        replace a1 := hx.cell a1
        replace a2 := hx.cell a2
        replace b0 := hx.cell b0
        replace b1 := hx.cell b1
        replace b2 := hx.cell b2
        replace hE := hid (hE.out.trans hx)
        clear hx lt lt2
        have lt := World.block_lt_of_cell? w7 _ a0
        have lt2 := World.block_lt_of_cell? w7 _ b0
        go_wp2_with fail
        refine (cv.out _).mono ?_
        rintro e w8 ⟨rfl, hx⟩
        replace a0 := hx.cell a0
        replace a1 := hx.cell a1
        replace a2 := hx.cell a2
        replace b0 := hx.cell b0
        replace b1 := hx.cell b1
        replace b2 := hx.cell b2
        replace hE := hid (hE.out.trans hx)
        clear hx lt lt2
        have lt := World.block_lt_of_cell? w8 _ a0
        have lt2 := World.block_lt_of_cell? w8 _ b0
        go_wp2_with fail
        refine (known_any _ (hm.out.ext hE.out)).mono ?_
        rintro e w9 ⟨rfl, hx9⟩
        go_wp2
        go_ret
        exact ⟨rfl, hE.out.trans hx9⟩
      have cr := hid (fun w hm => cy.out hq hk w hm)
      rw [hv] at cv
      have k0 : (k == 0) = false := by simpa using hk
      have hG := hid (fun (h' : valE k n' s' = 0) => rng_good (ex := ex) (p := p) (c := c) ho hv h' hk)
      have hIn := hid (fun (h' : valE k n' s' = 0) => rng_in (hG.out h') dn)
      have hsz := dn_size dn o k n s ex p c
      have ck := hid (fun (h' : valE k n' s' = 0) w => rKeyOf_any k n' s' p c dn h' hco.out w)
      have cI := hid (fun w => inside_any (turnS dn (keyB k n' s' p c)) (dnL dn (bnd o k n s ex p c)) (dnH dn (bnd o k n s ex p c)) (by have := keyB_size k n' s' p c; rw [turnS_size]; omega) (by omega) (by omega) w)
      have cH := hid (fun w => holds_any o ho k n' s' n s ex hs' hs w)
      have f1 : Hid (∀ h' : valE k n' s' = 0, holdB o k n' s' n s ex = true → inB (turnS dn (keyB k n' s' p c)) (dnL dn (bnd o k n s ex p c)) (dnH dn (bnd o k n s ex p c)) = true) := fun h' q => (hIn.out h').2 ((hG.out h').1 q)
      have f2 : Hid (∀ h' : valE k n' s' = 0, inB (turnS dn (keyB k n' s' p c)) (dnL dn (bnd o k n s ex p c)) (dnH dn (bnd o k n s ex p c)) = true → sureB o k s ex c = true → s'.size ≤ 48 → holdB o k n' s' n s ex = true) := fun h' q1 q2 q3 => (hG.out h').2.1 ((hIn.out h').1 q1) q2 q3
      clear hG hIn hsz cy cn hq hv hco
      generalize inB (turnS dn (keyB k n' s' p c)) (dnL dn (bnd o k n s ex p c)) (dnH dn (bnd o k n s ex p c)) = I at *
      generalize turnS dn (keyB k n' s' p c) = KW at *
      generalize dnL dn (bnd o k n s ex p c) = LO at *
      generalize dnH dn (bnd o k n s ex p c) = HI at *
      generalize holdB o k n' s' n s ex = H at *
      have hS : Hid ((decide (c = 0) && (decide (k ≠ 4) || (decide (s.size < 48) && !(decide (o = 0) && ex)))) = sureB o k s ex c) := rfl
      generalize sureB o k s ex c = SU at *
      generalize decide (o = 0) = O0 at *
      generalize opB o = op at *
      clear ho
      unfold vV at ck cH
      go_wp2_with fail
      refine (cr.out _ (hm.out.ext hE.out)).mono ?_
      rintro e w7 ⟨rfl, hx⟩
      replace a0 := hx.cell a0
      replace a1 := hx.cell a1
      replace a2 := hx.cell a2
      replace b0 := hx.cell b0
      replace b1 := hx.cell b1
      replace b2 := hx.cell b2
      replace hE := hid (hE.out.trans hx)
      clear hx lt lt2
      have lt := World.block_lt_of_cell? w7 _ a0
      have lt2 := World.block_lt_of_cell? w7 _ b0
      go_wp2_with fail
      refine (cv.out _).mono ?_
      rintro e w8 ⟨rfl, hx⟩
      replace a0 := hx.cell a0
      replace a1 := hx.cell a1
      replace a2 := hx.cell a2
      replace b0 := hx.cell b0
      replace b1 := hx.cell b1
      replace b2 := hx.cell b2
      replace hE := hid (hE.out.trans hx)
      clear hx lt lt2
      have lt := World.block_lt_of_cell? w8 _ a0
      have lt2 := World.block_lt_of_cell? w8 _ b0
      clear cr cv
      by_cases hc : c = 0
      rotate_left
      · have e1 : (c == 0) = false := by simpa using hc
        obtain rfl : SU = false := by rw [← hS.out]; simp [hc]
        clear hS hc
        by_cases hv' : valE k' n' s' = 0
        rotate_left
        · have d2 : (valE k' n' s' != 0) = true := by simpa using hv'
          clear hv' f1 f2 ck cI cH
          generalize valE k' n' s' = E at *
          go_wp2_with fail
          refine (cv'.out _).mono ?_
          rintro e w9 ⟨rfl, hx⟩
          replace a0 := hx.cell a0
          replace a1 := hx.cell a1
          replace a2 := hx.cell a2
          replace b0 := hx.cell b0
          replace b1 := hx.cell b1
          replace b2 := hx.cell b2
          replace hE := hid (hE.out.trans hx)
          clear hx lt lt2
          have lt := World.block_lt_of_cell? w9 _ a0
          have lt2 := World.block_lt_of_cell? w9 _ b0
          go_wp2_with fail
          refine (known_any _ (hm.out.ext hE.out)).mono ?_
          rintro e w9 ⟨rfl, hx9⟩
          go_wp2
          go_ret
          exact ⟨rfl, hE.out.trans hx9⟩
        rw [hv'] at cv'
        by_cases hkk : k' = k
        rotate_left
        · have d2 : (k' != k) = true := by simpa using hkk
          clear hkk hv' f1 f2 ck cI cH
          go_wp2_with fail
          refine (cv'.out _).mono ?_
          rintro e w9 ⟨rfl, hx⟩
          replace a0 := hx.cell a0
          replace a1 := hx.cell a1
          replace a2 := hx.cell a2
          replace b0 := hx.cell b0
          replace b1 := hx.cell b1
          replace b2 := hx.cell b2
          replace hE := hid (hE.out.trans hx)
          clear hx lt lt2
          have lt := World.block_lt_of_cell? w9 _ a0
          have lt2 := World.block_lt_of_cell? w9 _ b0
          go_wp2_with fail
          refine (known_any _ (hm.out.ext hE.out)).mono ?_
          rintro e w9 ⟨rfl, hx9⟩
          go_wp2
          go_ret
          exact ⟨rfl, hE.out.trans hx9⟩
        obtain rfl : k' = k := hkk
        replace f1 := hid (f1.out hv')
        replace f2 := hid (f2.out hv')
        replace ck := hid (fun w => ck.out hv' w)
        clear hv'
        go_wp2_with fail
        refine (cv'.out _).mono ?_
        rintro e w9 ⟨rfl, hx⟩
        replace a0 := hx.cell a0
        replace a1 := hx.cell a1
        replace a2 := hx.cell a2
        replace b0 := hx.cell b0
        replace b1 := hx.cell b1
        replace b2 := hx.cell b2
        replace hE := hid (hE.out.trans hx)
        clear hx lt lt2
        have lt := World.block_lt_of_cell? w9 _ a0
        have lt2 := World.block_lt_of_cell? w9 _ b0
        go_wp2_with fail
        refine (ck.out _).mono ?_
        rintro e w10 ⟨rfl, hx⟩
        replace a0 := hx.cell a0
        replace a1 := hx.cell a1
        replace a2 := hx.cell a2
        replace b0 := hx.cell b0
        replace b1 := hx.cell b1
        replace b2 := hx.cell b2
        replace hE := hid (hE.out.trans hx)
        clear hx lt lt2
        have lt := World.block_lt_of_cell? w10 _ a0
        have lt2 := World.block_lt_of_cell? w10 _ b0
        go_wp2_with fail
        refine (cI.out _).mono ?_
        rintro e w11 ⟨rfl, hx⟩
        replace a0 := hx.cell a0
        replace a1 := hx.cell a1
        replace a2 := hx.cell a2
        replace b0 := hx.cell b0
        replace b1 := hx.cell b1
        replace b2 := hx.cell b2
        replace hE := hid (hE.out.trans hx)
        clear hx lt lt2
        have lt := World.block_lt_of_cell? w11 _ a0
        have lt2 := World.block_lt_of_cell? w11 _ b0
        go_wp2_with fail
        refine (cH.out _).mono ?_
        rintro e w12 ⟨rfl, hx⟩
        replace a0 := hx.cell a0
        replace a1 := hx.cell a1
        replace a2 := hx.cell a2
        replace b0 := hx.cell b0
        replace b1 := hx.cell b1
        replace b2 := hx.cell b2
        replace hE := hid (hE.out.trans hx)
        clear hx lt lt2
        have lt := World.block_lt_of_cell? w12 _ a0
        have lt2 := World.block_lt_of_cell? w12 _ b0
        clear cv' ck cI cH
        cases H with
        | true =>
          obtain rfl : I = true := f1.out rfl
          clear f1 f2
          go_wp2_with fail
          refine (known_any _ (hm.out.ext hE.out)).mono ?_
          rintro e w9 ⟨rfl, hx9⟩
          go_wp2
          go_ret
          exact ⟨rfl, hE.out.trans hx9⟩
        | false =>
          cases I with
          | false =>
            clear f1 f2
            go_wp2_with fail
            refine (known_any _ (hm.out.ext hE.out)).mono ?_
            rintro e w9 ⟨rfl, hx9⟩
            go_wp2
            go_ret
            exact ⟨rfl, hE.out.trans hx9⟩
          | true =>
            clear f1 f2
            go_wp2_with fail
            refine (known_any _ (hm.out.ext hE.out)).mono ?_
            rintro e w9 ⟨rfl, hx9⟩
            go_wp2
            go_ret
            exact ⟨rfl, hE.out.trans hx9⟩
      subst hc
      by_cases h4 : k = 4
      rotate_left
      · have e1 : (k != 4) = true := by simpa using h4
        obtain rfl : SU = true := by rw [← hS.out]; simp [h4]
        clear hS h4
        by_cases hv' : valE k' n' s' = 0
        rotate_left
        · have d2 : (valE k' n' s' != 0) = true := by simpa using hv'
          clear hv' f1 f2 ck cI cH
          generalize valE k' n' s' = E at *
          go_wp2_with fail
          refine (cv'.out _).mono ?_
          rintro e w9 ⟨rfl, hx⟩
          replace a0 := hx.cell a0
          replace a1 := hx.cell a1
          replace a2 := hx.cell a2
          replace b0 := hx.cell b0
          replace b1 := hx.cell b1
          replace b2 := hx.cell b2
          replace hE := hid (hE.out.trans hx)
          clear hx lt lt2
          have lt := World.block_lt_of_cell? w9 _ a0
          have lt2 := World.block_lt_of_cell? w9 _ b0
          go_wp2_with fail
          refine (known_any _ (hm.out.ext hE.out)).mono ?_
          rintro e w9 ⟨rfl, hx9⟩
          go_wp2
          go_ret
          exact ⟨rfl, hE.out.trans hx9⟩
        rw [hv'] at cv'
        by_cases hkk : k' = k
        rotate_left
        · have d2 : (k' != k) = true := by simpa using hkk
          clear hkk hv' f1 f2 ck cI cH
          go_wp2_with fail
          refine (cv'.out _).mono ?_
          rintro e w9 ⟨rfl, hx⟩
          replace a0 := hx.cell a0
          replace a1 := hx.cell a1
          replace a2 := hx.cell a2
          replace b0 := hx.cell b0
          replace b1 := hx.cell b1
          replace b2 := hx.cell b2
          replace hE := hid (hE.out.trans hx)
          clear hx lt lt2
          have lt := World.block_lt_of_cell? w9 _ a0
          have lt2 := World.block_lt_of_cell? w9 _ b0
          go_wp2_with fail
          refine (known_any _ (hm.out.ext hE.out)).mono ?_
          rintro e w9 ⟨rfl, hx9⟩
          go_wp2
          go_ret
          exact ⟨rfl, hE.out.trans hx9⟩
        obtain rfl : k' = k := hkk
        replace f1 := hid (f1.out hv')
        replace f2 := hid (f2.out hv')
        replace ck := hid (fun w => ck.out hv' w)
        clear hv'
        go_wp2_with fail
        refine (cv'.out _).mono ?_
        rintro e w9 ⟨rfl, hx⟩
        replace a0 := hx.cell a0
        replace a1 := hx.cell a1
        replace a2 := hx.cell a2
        replace b0 := hx.cell b0
        replace b1 := hx.cell b1
        replace b2 := hx.cell b2
        replace hE := hid (hE.out.trans hx)
        clear hx lt lt2
        have lt := World.block_lt_of_cell? w9 _ a0
        have lt2 := World.block_lt_of_cell? w9 _ b0
        go_wp2_with fail
        refine (ck.out _).mono ?_
        rintro e w10 ⟨rfl, hx⟩
        replace a0 := hx.cell a0
        replace a1 := hx.cell a1
        replace a2 := hx.cell a2
        replace b0 := hx.cell b0
        replace b1 := hx.cell b1
        replace b2 := hx.cell b2
        replace hE := hid (hE.out.trans hx)
        clear hx lt lt2
        have lt := World.block_lt_of_cell? w10 _ a0
        have lt2 := World.block_lt_of_cell? w10 _ b0
        go_wp2_with fail
        refine (cI.out _).mono ?_
        rintro e w11 ⟨rfl, hx⟩
        replace a0 := hx.cell a0
        replace a1 := hx.cell a1
        replace a2 := hx.cell a2
        replace b0 := hx.cell b0
        replace b1 := hx.cell b1
        replace b2 := hx.cell b2
        replace hE := hid (hE.out.trans hx)
        clear hx lt lt2
        have lt := World.block_lt_of_cell? w11 _ a0
        have lt2 := World.block_lt_of_cell? w11 _ b0
        go_wp2_with fail
        refine (cH.out _).mono ?_
        rintro e w12 ⟨rfl, hx⟩
        replace a0 := hx.cell a0
        replace a1 := hx.cell a1
        replace a2 := hx.cell a2
        replace b0 := hx.cell b0
        replace b1 := hx.cell b1
        replace b2 := hx.cell b2
        replace hE := hid (hE.out.trans hx)
        clear hx lt lt2
        have lt := World.block_lt_of_cell? w12 _ a0
        have lt2 := World.block_lt_of_cell? w12 _ b0
        clear cv' ck cI cH
        cases H with
        | true =>
          obtain rfl : I = true := f1.out rfl
          clear f1 f2
          go_wp2_with fail
          refine (known_any _ (hm.out.ext hE.out)).mono ?_
          rintro e w9 ⟨rfl, hx9⟩
          go_wp2
          go_ret
          exact ⟨rfl, hE.out.trans hx9⟩
        | false =>
          cases I with
          | false =>
            clear f1 f2
            go_wp2_with fail
            refine (known_any _ (hm.out.ext hE.out)).mono ?_
            rintro e w9 ⟨rfl, hx9⟩
            go_wp2
            go_ret
            exact ⟨rfl, hE.out.trans hx9⟩
          | true =>
            clear f1
            have d4 : decide ((s'.size : Int) ≤ 48) = false := by
              by_cases q : s'.size ≤ 48
              · exact absurd (f2.out (by simp) (by simp) q) (by simp)
              · simp; omega
            clear f2
            go_wp2_with fail
            refine (known_any _ (hm.out.ext hE.out)).mono ?_
            rintro e w9 ⟨rfl, hx9⟩
            go_wp2
            go_ret
            exact ⟨rfl, hE.out.trans hx9⟩
      have e0 : (k != 4) = false := by simp [h4]
      by_cases hsz : s.size < 48
      rotate_left
      · have e1 : decide ((s.size : Int) ≤ 47) = false := by simp; omega
        obtain rfl : SU = false := by rw [← hS.out]; simp [h4]; omega
        clear hS hsz h4
        by_cases hv' : valE k' n' s' = 0
        rotate_left
        · have d2 : (valE k' n' s' != 0) = true := by simpa using hv'
          clear hv' f1 f2 ck cI cH
          generalize valE k' n' s' = E at *
          go_wp2_with fail
          refine (cv'.out _).mono ?_
          rintro e w9 ⟨rfl, hx⟩
          replace a0 := hx.cell a0
          replace a1 := hx.cell a1
          replace a2 := hx.cell a2
          replace b0 := hx.cell b0
          replace b1 := hx.cell b1
          replace b2 := hx.cell b2
          replace hE := hid (hE.out.trans hx)
          clear hx lt lt2
          have lt := World.block_lt_of_cell? w9 _ a0
          have lt2 := World.block_lt_of_cell? w9 _ b0
          go_wp2_with fail
          refine (known_any _ (hm.out.ext hE.out)).mono ?_
          rintro e w9 ⟨rfl, hx9⟩
          go_wp2
          go_ret
          exact ⟨rfl, hE.out.trans hx9⟩
        rw [hv'] at cv'
        by_cases hkk : k' = k
        rotate_left
        · have d2 : (k' != k) = true := by simpa using hkk
          clear hkk hv' f1 f2 ck cI cH
          go_wp2_with fail
          refine (cv'.out _).mono ?_
          rintro e w9 ⟨rfl, hx⟩
          replace a0 := hx.cell a0
          replace a1 := hx.cell a1
          replace a2 := hx.cell a2
          replace b0 := hx.cell b0
          replace b1 := hx.cell b1
          replace b2 := hx.cell b2
          replace hE := hid (hE.out.trans hx)
          clear hx lt lt2
          have lt := World.block_lt_of_cell? w9 _ a0
          have lt2 := World.block_lt_of_cell? w9 _ b0
          go_wp2_with fail
          refine (known_any _ (hm.out.ext hE.out)).mono ?_
          rintro e w9 ⟨rfl, hx9⟩
          go_wp2
          go_ret
          exact ⟨rfl, hE.out.trans hx9⟩
        obtain rfl : k' = k := hkk
        replace f1 := hid (f1.out hv')
        replace f2 := hid (f2.out hv')
        replace ck := hid (fun w => ck.out hv' w)
        clear hv'
        go_wp2_with fail
        refine (cv'.out _).mono ?_
        rintro e w9 ⟨rfl, hx⟩
        replace a0 := hx.cell a0
        replace a1 := hx.cell a1
        replace a2 := hx.cell a2
        replace b0 := hx.cell b0
        replace b1 := hx.cell b1
        replace b2 := hx.cell b2
        replace hE := hid (hE.out.trans hx)
        clear hx lt lt2
        have lt := World.block_lt_of_cell? w9 _ a0
        have lt2 := World.block_lt_of_cell? w9 _ b0
        go_wp2_with fail
        refine (ck.out _).mono ?_
        rintro e w10 ⟨rfl, hx⟩
        replace a0 := hx.cell a0
        replace a1 := hx.cell a1
        replace a2 := hx.cell a2
        replace b0 := hx.cell b0
        replace b1 := hx.cell b1
        replace b2 := hx.cell b2
        replace hE := hid (hE.out.trans hx)
        clear hx lt lt2
        have lt := World.block_lt_of_cell? w10 _ a0
        have lt2 := World.block_lt_of_cell? w10 _ b0
        go_wp2_with fail
        refine (cI.out _).mono ?_
        rintro e w11 ⟨rfl, hx⟩
        replace a0 := hx.cell a0
        replace a1 := hx.cell a1
        replace a2 := hx.cell a2
        replace b0 := hx.cell b0
        replace b1 := hx.cell b1
        replace b2 := hx.cell b2
        replace hE := hid (hE.out.trans hx)
        clear hx lt lt2
        have lt := World.block_lt_of_cell? w11 _ a0
        have lt2 := World.block_lt_of_cell? w11 _ b0
        go_wp2_with fail
        refine (cH.out _).mono ?_
        rintro e w12 ⟨rfl, hx⟩
        replace a0 := hx.cell a0
        replace a1 := hx.cell a1
        replace a2 := hx.cell a2
        replace b0 := hx.cell b0
        replace b1 := hx.cell b1
        replace b2 := hx.cell b2
        replace hE := hid (hE.out.trans hx)
        clear hx lt lt2
        have lt := World.block_lt_of_cell? w12 _ a0
        have lt2 := World.block_lt_of_cell? w12 _ b0
        clear cv' ck cI cH
        cases H with
        | true =>
          obtain rfl : I = true := f1.out rfl
          clear f1 f2
          go_wp2_with fail
          refine (known_any _ (hm.out.ext hE.out)).mono ?_
          rintro e w9 ⟨rfl, hx9⟩
          go_wp2
          go_ret
          exact ⟨rfl, hE.out.trans hx9⟩
        | false =>
          cases I with
          | false =>
            clear f1 f2
            go_wp2_with fail
            refine (known_any _ (hm.out.ext hE.out)).mono ?_
            rintro e w9 ⟨rfl, hx9⟩
            go_wp2
            go_ret
            exact ⟨rfl, hE.out.trans hx9⟩
          | true =>
            clear f1 f2
            go_wp2_with fail
            refine (known_any _ (hm.out.ext hE.out)).mono ?_
            rintro e w9 ⟨rfl, hx9⟩
            go_wp2
            go_ret
            exact ⟨rfl, hE.out.trans hx9⟩
      have e1 : decide ((s.size : Int) ≤ 47) = true := by simp; omega
      obtain rfl : SU = !(O0 && ex) := by rw [← hS.out]; simp [h4, hsz]
      clear hS hsz h4
      cases O0 with
      | false =>
        rw [show (!(false && ex)) = true from rfl] at *
        by_cases hv' : valE k' n' s' = 0
        rotate_left
        · have d2 : (valE k' n' s' != 0) = true := by simpa using hv'
          clear hv' f1 f2 ck cI cH
          generalize valE k' n' s' = E at *
          go_wp2_with fail
          refine (cv'.out _).mono ?_
          rintro e w9 ⟨rfl, hx⟩
          replace a0 := hx.cell a0
          replace a1 := hx.cell a1
          replace a2 := hx.cell a2
          replace b0 := hx.cell b0
          replace b1 := hx.cell b1
          replace b2 := hx.cell b2
          replace hE := hid (hE.out.trans hx)
          clear hx lt lt2
          have lt := World.block_lt_of_cell? w9 _ a0
          have lt2 := World.block_lt_of_cell? w9 _ b0
          go_wp2_with fail
          refine (known_any _ (hm.out.ext hE.out)).mono ?_
          rintro e w9 ⟨rfl, hx9⟩
          go_wp2
          go_ret
          exact ⟨rfl, hE.out.trans hx9⟩
        rw [hv'] at cv'
        by_cases hkk : k' = k
        rotate_left
        · have d2 : (k' != k) = true := by simpa using hkk
          clear hkk hv' f1 f2 ck cI cH
          go_wp2_with fail
          refine (cv'.out _).mono ?_
          rintro e w9 ⟨rfl, hx⟩
          replace a0 := hx.cell a0
          replace a1 := hx.cell a1
          replace a2 := hx.cell a2
          replace b0 := hx.cell b0
          replace b1 := hx.cell b1
          replace b2 := hx.cell b2
          replace hE := hid (hE.out.trans hx)
          clear hx lt lt2
          have lt := World.block_lt_of_cell? w9 _ a0
          have lt2 := World.block_lt_of_cell? w9 _ b0
          go_wp2_with fail
          refine (known_any _ (hm.out.ext hE.out)).mono ?_
          rintro e w9 ⟨rfl, hx9⟩
          go_wp2
          go_ret
          exact ⟨rfl, hE.out.trans hx9⟩
        obtain rfl : k' = k := hkk
        replace f1 := hid (f1.out hv')
        replace f2 := hid (f2.out hv')
        replace ck := hid (fun w => ck.out hv' w)
        clear hv'
        go_wp2_with fail
        refine (cv'.out _).mono ?_
        rintro e w9 ⟨rfl, hx⟩
        replace a0 := hx.cell a0
        replace a1 := hx.cell a1
        replace a2 := hx.cell a2
        replace b0 := hx.cell b0
        replace b1 := hx.cell b1
        replace b2 := hx.cell b2
        replace hE := hid (hE.out.trans hx)
        clear hx lt lt2
        have lt := World.block_lt_of_cell? w9 _ a0
        have lt2 := World.block_lt_of_cell? w9 _ b0
        go_wp2_with fail
        refine (ck.out _).mono ?_
        rintro e w10 ⟨rfl, hx⟩
        replace a0 := hx.cell a0
        replace a1 := hx.cell a1
        replace a2 := hx.cell a2
        replace b0 := hx.cell b0
        replace b1 := hx.cell b1
        replace b2 := hx.cell b2
        replace hE := hid (hE.out.trans hx)
        clear hx lt lt2
        have lt := World.block_lt_of_cell? w10 _ a0
        have lt2 := World.block_lt_of_cell? w10 _ b0
        go_wp2_with fail
        refine (cI.out _).mono ?_
        rintro e w11 ⟨rfl, hx⟩
        replace a0 := hx.cell a0
        replace a1 := hx.cell a1
        replace a2 := hx.cell a2
        replace b0 := hx.cell b0
        replace b1 := hx.cell b1
        replace b2 := hx.cell b2
        replace hE := hid (hE.out.trans hx)
        clear hx lt lt2
        have lt := World.block_lt_of_cell? w11 _ a0
        have lt2 := World.block_lt_of_cell? w11 _ b0
        go_wp2_with fail
        refine (cH.out _).mono ?_
        rintro e w12 ⟨rfl, hx⟩
        replace a0 := hx.cell a0
        replace a1 := hx.cell a1
        replace a2 := hx.cell a2
        replace b0 := hx.cell b0
        replace b1 := hx.cell b1
        replace b2 := hx.cell b2
        replace hE := hid (hE.out.trans hx)
        clear hx lt lt2
        have lt := World.block_lt_of_cell? w12 _ a0
        have lt2 := World.block_lt_of_cell? w12 _ b0
        clear cv' ck cI cH
        cases H with
        | true =>
          obtain rfl : I = true := f1.out rfl
          clear f1 f2
          go_wp2_with fail
          refine (known_any _ (hm.out.ext hE.out)).mono ?_
          rintro e w9 ⟨rfl, hx9⟩
          go_wp2
          go_ret
          exact ⟨rfl, hE.out.trans hx9⟩
        | false =>
          cases I with
          | false =>
            clear f1 f2
            go_wp2_with fail
            refine (known_any _ (hm.out.ext hE.out)).mono ?_
            rintro e w9 ⟨rfl, hx9⟩
            go_wp2
            go_ret
            exact ⟨rfl, hE.out.trans hx9⟩
          | true =>
            clear f1
            have d4 : decide ((s'.size : Int) ≤ 48) = false := by
              by_cases q : s'.size ≤ 48
              · exact absurd (f2.out (by simp) (by simp) q) (by simp)
              · simp; omega
            clear f2
            go_wp2_with fail
            refine (known_any _ (hm.out.ext hE.out)).mono ?_
            rintro e w9 ⟨rfl, hx9⟩
            go_wp2
            go_ret
            exact ⟨rfl, hE.out.trans hx9⟩
      | true =>
        cases ex with
        | false =>
          rw [show (!(true && false)) = true from rfl] at *
          by_cases hv' : valE k' n' s' = 0
          rotate_left
          · have d2 : (valE k' n' s' != 0) = true := by simpa using hv'
            clear hv' f1 f2 ck cI cH
            generalize valE k' n' s' = E at *
            go_wp2_with fail
            refine (cv'.out _).mono ?_
            rintro e w9 ⟨rfl, hx⟩
            replace a0 := hx.cell a0
            replace a1 := hx.cell a1
            replace a2 := hx.cell a2
            replace b0 := hx.cell b0
            replace b1 := hx.cell b1
            replace b2 := hx.cell b2
            replace hE := hid (hE.out.trans hx)
            clear hx lt lt2
            have lt := World.block_lt_of_cell? w9 _ a0
            have lt2 := World.block_lt_of_cell? w9 _ b0
            go_wp2_with fail
            refine (known_any _ (hm.out.ext hE.out)).mono ?_
            rintro e w9 ⟨rfl, hx9⟩
            go_wp2
            go_ret
            exact ⟨rfl, hE.out.trans hx9⟩
          rw [hv'] at cv'
          by_cases hkk : k' = k
          rotate_left
          · have d2 : (k' != k) = true := by simpa using hkk
            clear hkk hv' f1 f2 ck cI cH
            go_wp2_with fail
            refine (cv'.out _).mono ?_
            rintro e w9 ⟨rfl, hx⟩
            replace a0 := hx.cell a0
            replace a1 := hx.cell a1
            replace a2 := hx.cell a2
            replace b0 := hx.cell b0
            replace b1 := hx.cell b1
            replace b2 := hx.cell b2
            replace hE := hid (hE.out.trans hx)
            clear hx lt lt2
            have lt := World.block_lt_of_cell? w9 _ a0
            have lt2 := World.block_lt_of_cell? w9 _ b0
            go_wp2_with fail
            refine (known_any _ (hm.out.ext hE.out)).mono ?_
            rintro e w9 ⟨rfl, hx9⟩
            go_wp2
            go_ret
            exact ⟨rfl, hE.out.trans hx9⟩
          obtain rfl : k' = k := hkk
          replace f1 := hid (f1.out hv')
          replace f2 := hid (f2.out hv')
          replace ck := hid (fun w => ck.out hv' w)
          clear hv'
          go_wp2_with fail
          refine (cv'.out _).mono ?_
          rintro e w9 ⟨rfl, hx⟩
          replace a0 := hx.cell a0
          replace a1 := hx.cell a1
          replace a2 := hx.cell a2
          replace b0 := hx.cell b0
          replace b1 := hx.cell b1
          replace b2 := hx.cell b2
          replace hE := hid (hE.out.trans hx)
          clear hx lt lt2
          have lt := World.block_lt_of_cell? w9 _ a0
          have lt2 := World.block_lt_of_cell? w9 _ b0
          go_wp2_with fail
          refine (ck.out _).mono ?_
          rintro e w10 ⟨rfl, hx⟩
          replace a0 := hx.cell a0
          replace a1 := hx.cell a1
          replace a2 := hx.cell a2
          replace b0 := hx.cell b0
          replace b1 := hx.cell b1
          replace b2 := hx.cell b2
          replace hE := hid (hE.out.trans hx)
          clear hx lt lt2
          have lt := World.block_lt_of_cell? w10 _ a0
          have lt2 := World.block_lt_of_cell? w10 _ b0
          go_wp2_with fail
          refine (cI.out _).mono ?_
          rintro e w11 ⟨rfl, hx⟩
          replace a0 := hx.cell a0
          replace a1 := hx.cell a1
          replace a2 := hx.cell a2
          replace b0 := hx.cell b0
          replace b1 := hx.cell b1
          replace b2 := hx.cell b2
          replace hE := hid (hE.out.trans hx)
          clear hx lt lt2
          have lt := World.block_lt_of_cell? w11 _ a0
          have lt2 := World.block_lt_of_cell? w11 _ b0
          go_wp2_with fail
          refine (cH.out _).mono ?_
          rintro e w12 ⟨rfl, hx⟩
          replace a0 := hx.cell a0
          replace a1 := hx.cell a1
          replace a2 := hx.cell a2
          replace b0 := hx.cell b0
          replace b1 := hx.cell b1
          replace b2 := hx.cell b2
          replace hE := hid (hE.out.trans hx)
          clear hx lt lt2
          have lt := World.block_lt_of_cell? w12 _ a0
          have lt2 := World.block_lt_of_cell? w12 _ b0
          clear cv' ck cI cH
          cases H with
          | true =>
            obtain rfl : I = true := f1.out rfl
            clear f1 f2
            go_wp2_with fail
            refine (known_any _ (hm.out.ext hE.out)).mono ?_
            rintro e w9 ⟨rfl, hx9⟩
            go_wp2
            go_ret
            exact ⟨rfl, hE.out.trans hx9⟩
          | false =>
            cases I with
            | false =>
              clear f1 f2
              go_wp2_with fail
              refine (known_any _ (hm.out.ext hE.out)).mono ?_
              rintro e w9 ⟨rfl, hx9⟩
              go_wp2
              go_ret
              exact ⟨rfl, hE.out.trans hx9⟩
            | true =>
              clear f1
              have d4 : decide ((s'.size : Int) ≤ 48) = false := by
                by_cases q : s'.size ≤ 48
                · exact absurd (f2.out (by simp) (by simp) q) (by simp)
                · simp; omega
              clear f2
              go_wp2_with fail
              refine (known_any _ (hm.out.ext hE.out)).mono ?_
              rintro e w9 ⟨rfl, hx9⟩
              go_wp2
              go_ret
              exact ⟨rfl, hE.out.trans hx9⟩
        | true =>
          rw [show (!(true && true)) = false from rfl] at *
          by_cases hv' : valE k' n' s' = 0
          rotate_left
          · have d2 : (valE k' n' s' != 0) = true := by simpa using hv'
            clear hv' f1 f2 ck cI cH
            generalize valE k' n' s' = E at *
            go_wp2_with fail
            refine (cv'.out _).mono ?_
            rintro e w9 ⟨rfl, hx⟩
            replace a0 := hx.cell a0
            replace a1 := hx.cell a1
            replace a2 := hx.cell a2
            replace b0 := hx.cell b0
            replace b1 := hx.cell b1
            replace b2 := hx.cell b2
            replace hE := hid (hE.out.trans hx)
            clear hx lt lt2
            have lt := World.block_lt_of_cell? w9 _ a0
            have lt2 := World.block_lt_of_cell? w9 _ b0
            go_wp2_with fail
            refine (known_any _ (hm.out.ext hE.out)).mono ?_
            rintro e w9 ⟨rfl, hx9⟩
            go_wp2
            go_ret
            exact ⟨rfl, hE.out.trans hx9⟩
          rw [hv'] at cv'
          by_cases hkk : k' = k
          rotate_left
          · have d2 : (k' != k) = true := by simpa using hkk
            clear hkk hv' f1 f2 ck cI cH
            go_wp2_with fail
            refine (cv'.out _).mono ?_
            rintro e w9 ⟨rfl, hx⟩
            replace a0 := hx.cell a0
            replace a1 := hx.cell a1
            replace a2 := hx.cell a2
            replace b0 := hx.cell b0
            replace b1 := hx.cell b1
            replace b2 := hx.cell b2
            replace hE := hid (hE.out.trans hx)
            clear hx lt lt2
            have lt := World.block_lt_of_cell? w9 _ a0
            have lt2 := World.block_lt_of_cell? w9 _ b0
            go_wp2_with fail
            refine (known_any _ (hm.out.ext hE.out)).mono ?_
            rintro e w9 ⟨rfl, hx9⟩
            go_wp2
            go_ret
            exact ⟨rfl, hE.out.trans hx9⟩
          obtain rfl : k' = k := hkk
          replace f1 := hid (f1.out hv')
          replace f2 := hid (f2.out hv')
          replace ck := hid (fun w => ck.out hv' w)
          clear hv'
          go_wp2_with fail
          refine (cv'.out _).mono ?_
          rintro e w9 ⟨rfl, hx⟩
          replace a0 := hx.cell a0
          replace a1 := hx.cell a1
          replace a2 := hx.cell a2
          replace b0 := hx.cell b0
          replace b1 := hx.cell b1
          replace b2 := hx.cell b2
          replace hE := hid (hE.out.trans hx)
          clear hx lt lt2
          have lt := World.block_lt_of_cell? w9 _ a0
          have lt2 := World.block_lt_of_cell? w9 _ b0
          go_wp2_with fail
          refine (ck.out _).mono ?_
          rintro e w10 ⟨rfl, hx⟩
          replace a0 := hx.cell a0
          replace a1 := hx.cell a1
          replace a2 := hx.cell a2
          replace b0 := hx.cell b0
          replace b1 := hx.cell b1
          replace b2 := hx.cell b2
          replace hE := hid (hE.out.trans hx)
          clear hx lt lt2
          have lt := World.block_lt_of_cell? w10 _ a0
          have lt2 := World.block_lt_of_cell? w10 _ b0
          go_wp2_with fail
          refine (cI.out _).mono ?_
          rintro e w11 ⟨rfl, hx⟩
          replace a0 := hx.cell a0
          replace a1 := hx.cell a1
          replace a2 := hx.cell a2
          replace b0 := hx.cell b0
          replace b1 := hx.cell b1
          replace b2 := hx.cell b2
          replace hE := hid (hE.out.trans hx)
          clear hx lt lt2
          have lt := World.block_lt_of_cell? w11 _ a0
          have lt2 := World.block_lt_of_cell? w11 _ b0
          go_wp2_with fail
          refine (cH.out _).mono ?_
          rintro e w12 ⟨rfl, hx⟩
          replace a0 := hx.cell a0
          replace a1 := hx.cell a1
          replace a2 := hx.cell a2
          replace b0 := hx.cell b0
          replace b1 := hx.cell b1
          replace b2 := hx.cell b2
          replace hE := hid (hE.out.trans hx)
          clear hx lt lt2
          have lt := World.block_lt_of_cell? w12 _ a0
          have lt2 := World.block_lt_of_cell? w12 _ b0
          clear cv' ck cI cH
          cases H with
          | true =>
            obtain rfl : I = true := f1.out rfl
            clear f1 f2
            go_wp2_with fail
            refine (known_any _ (hm.out.ext hE.out)).mono ?_
            rintro e w9 ⟨rfl, hx9⟩
            go_wp2
            go_ret
            exact ⟨rfl, hE.out.trans hx9⟩
          | false =>
            cases I with
            | false =>
              clear f1 f2
              go_wp2_with fail
              refine (known_any _ (hm.out.ext hE.out)).mono ?_
              rintro e w9 ⟨rfl, hx9⟩
              go_wp2
              go_ret
              exact ⟨rfl, hE.out.trans hx9⟩
            | true =>
              clear f1 f2
              go_wp2_with fail
              refine (known_any _ (hm.out.ext hE.out)).mono ?_
              rintro e w9 ⟨rfl, hx9⟩
              go_wp2
              go_ret
              exact ⟨rfl, hE.out.trans hx9⟩
end Go.Proofs.YtlfanhlkoepodaaDoor
