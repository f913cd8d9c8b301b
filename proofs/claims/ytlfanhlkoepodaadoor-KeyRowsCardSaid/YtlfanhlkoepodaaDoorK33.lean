/-
  The compound key of values: the program.
-/
import Derived.Test.YtlfanhlkoepodaaDoorK32
import Derived.Test.YtlfanhlkoepodaaDoorK23
namespace Go.Proofs.YtlfanhlkoepodaaDoor
open Go.RowKit
set_option linter.unusedVariables false
set_option linter.unusedSimpArgs false
def rowL (p c : Int) (l : List VL) (ds : List Bool) : List UInt8 := (List.zipWith (fun (v : VL) d => turnD d (kL v.1 v.2.1 v.2.2 p c)) l ds).flatten
theorem row_nil (p c : Int) (ds : List Bool) : rowL p c [] ds = [] := rfl
theorem row_step {p c : Int} {l : List VL} {ds : List Bool} {k : Nat} (h1 : k < l.length) (h2 : k < ds.length) : rowL p c (l.drop k) (ds.drop k) = turnD (both_ ds k) (kL (vth l k).1 (vth l k).2.1 (vth l k).2.2 p c) ++ rowL p c (l.drop (k + 1)) (ds.drop (k + 1)) := by
  rw [drop_both h2]
  have : l.drop k = vth l k :: l.drop (k + 1) := by
    rw [List.drop_eq_getElem_cons h1]
    congr 1
    simp [vth, List.getD, h1]
  rw [this]
  rfl
/-- The compound key, or an error. -/
def rowE (p c : Int) (l : List VL) (ds : List Bool) : Int := if hasE l 3 then 3 else if hasE l 1 then 1 else if l.length ≠ ds.length then 10 else if 100 < (rowL p c l ds).length then 3 else 0
def rowS (p c : Int) (l : List VL) (ds : List Bool) : ByteArray := if rowE p c l ds = 0 then strB (rowL p c l ds) else ByteArray.empty
theorem row_0 {p c : Int} {l : List VL} {ds : List Bool} {x : Int} (h : rowE p c l ds = x) (hx : x ≠ 0) : rowS p c l ds = { data := #[] } := by unfold rowS; rw [if_neg (by rw [h]; exact hx)]; rfl
theorem row_3 {p c : Int} {l : List VL} {ds : List Bool} (h : hasE l 3 = true) : rowE p c l ds = 3 ∧ rowS p c l ds = { data := #[] } := by
  have e : rowE p c l ds = 3 := by unfold rowE; rw [if_pos h]
  exact ⟨e, row_0 e (by decide)⟩
theorem row_1 {p c : Int} {l : List VL} {ds : List Bool} (h3 : hasE l 3 = false) (h : hasE l 1 = true) : rowE p c l ds = 1 ∧ rowS p c l ds = { data := #[] } := by
  have e : rowE p c l ds = 1 := by unfold rowE; rw [if_neg (by rw [h3]; simp), if_pos h]
  exact ⟨e, row_0 e (by decide)⟩
theorem row_10 {p c : Int} {l : List VL} {ds : List Bool} (h3 : hasE l 3 = false) (h1 : hasE l 1 = false) (h : l.length ≠ ds.length) : rowE p c l ds = 10 ∧ rowS p c l ds = { data := #[] } := by
  have e : rowE p c l ds = 10 := by unfold rowE; rw [if_neg (by rw [h3]; simp), if_neg (by rw [h1]; simp), if_pos h]
  exact ⟨e, row_0 e (by decide)⟩
theorem row_big {p c : Int} {l : List VL} {ds : List Bool} (h3 : hasE l 3 = false) (h1 : hasE l 1 = false) (h : l.length = ds.length) (hb : 100 < (rowL p c l ds).length) : rowE p c l ds = 3 ∧ rowS p c l ds = { data := #[] } := by
  have e : rowE p c l ds = 3 := by unfold rowE; rw [if_neg (by rw [h3]; simp), if_neg (by rw [h1]; simp), if_neg (by omega), if_pos hb]
  exact ⟨e, row_0 e (by decide)⟩
theorem row_yes {p c : Int} {l : List VL} {ds : List Bool} (h3 : hasE l 3 = false) (h1 : hasE l 1 = false) (h : l.length = ds.length) (hb : ¬ 100 < (rowL p c l ds).length) : rowE p c l ds = 0 ∧ rowS p c l ds = strB (rowL p c l ds) := by
  have e : rowE p c l ds = 0 := by unfold rowE; rw [if_neg (by rw [h3]; simp), if_neg (by rw [h1]; simp), if_neg (by omega), if_neg hb]
  exact ⟨e, by unfold rowS; rw [if_pos e]⟩
theorem ask_emp {p c : Int} (h : Co p c) : askV 0 0 { data := #[] } p c = 0 := by
  rw [askV_yes (by decide)]
  unfold askP
  have h1 := h.1
  have h2 := h.2
  unfold Pg.Pg at h1
  rcases h1 with rfl | rfl | rfl <;> rcases h2 with rfl | rfl <;> decide
theorem turnS_K (d : Bool) (k n : Int) (s : ByteArray) (p c : Int) : turnS d (keyB k n s p c) = strB (turnD d (kL k n s p c)) := by
  apply str_ext
  rw [turnS_list, keyB_list, strB_toList]
set_option maxRecDepth 100000 in
set_option maxHeartbeats 20000000 in
theorem Row_any (A : Option Addr) (n cp : Nat) (l : List VL) (p c : Int) (A2 : Option Addr) (nd cd : Nat) (ds : List Bool) (w : World) (hl : RdV w A n cp l) (hd : RdO w A2 nd cd ds) (hn : n ≤ 4398046510976) (hco : Co p c) (hm : ML w) : Calls Tryd.prog 46 #[.slice A n cp, .int .i64 p, .int .i64 c, .slice A2 nd cd] w (GiveSE (rowS p c l ds) (rowE p c l ds) w) := by
  have hlen := hid hl.len
  have hdlen := hid hd.len
  have hmx := Rd.max hl
  have hmy := Rd.max hd
  replace hm := hid hm
  have r3 := hid (fun h => row_3 (p := p) (c := c) (l := l) (ds := ds) h)
  have r1 := hid (fun h3 h => row_1 (p := p) (c := c) (l := l) (ds := ds) h3 h)
  have r10 := hid (fun h3 h1 h => row_10 (p := p) (c := c) (l := l) (ds := ds) h3 h1 h)
  have rb := hid (fun h3 h1 h hb => row_big (p := p) (c := c) (l := l) (ds := ds) h3 h1 h hb)
  have ry := hid (fun h3 h1 h hb => row_yes (p := p) (c := c) (l := l) (ds := ds) h3 h1 h hb)
  generalize rowE p c l ds = E at *
  generalize rowS p c l ds = S at *
  have ca := hid (fun w => asked_any 0 0 { data := #[] } p c w)
  rw [ask_emp hco] at ca
  unfold vV at ca
  have hmf : ∀ (fn : Fn) (first cap : Array Value) (w : World), (Instr.makeFunc fn first cap).run Tryd.prog w = .ok (.func fn first cap) w := fun _ _ _ _ => rfl
  have cc := hid (fun g x w hl hc => rowCf_any A n cp l g x w hl hc)
  replace hl := hid hl
  replace hd := hid hd
  go_enter Tryd.func46, Tryd.ntmps46
  go_upto_region 2 with fail
  generalize hw_ : w.alloc (.cells #[.int .i64 3, .int .i64 1] 27) = w1
  have hx0 : Ext (w.alloc (.cells #[.int .i64 3, .int .i64 1] 27)) w1 := by rw [hw_]; exact Ext.refl _
  clear hw_
  have v0 : w1.cell? ⟨w.heap.size, 0, none⟩ = some (.int .i64 3) := hx0.cell (by go_simp)
  have v1 : w1.cell? ⟨w.heap.size, 1, none⟩ = some (.int .i64 1) := hx0.cell (by go_simp)
  have hE1 := hid (Ext.trans ((Ext.refl w).alloc_right _) hx0)
  clear hx0
  have hv := hid (And.intro v0 v1)
  clear v0 v1
  go_loopw [18] (fun i wr => ∃ q : Nat, q ≤ 2 ∧ i = .int .i64 q ∧ Hid (Ext w1 wr) ∧ Hid (1 ≤ q → hasE l 3 = false) ∧ Hid (2 ≤ q → hasE l 1 = false)) (fun i _ => 2 - (intOf i).toNat)
  case atStart => exact ⟨0, by omega, rfl, Ext.refl _, fun h => absurd h (by omega), fun h => absurd h (by omega)⟩
  case round =>
    obtain ⟨q, hq, rfl, hx, hn3, hn1⟩ := hrel
    by_cases hlt : q < 2
    · rcases (by omega : q = 0 ∨ q = 1) with hqe | hqe
      · subst hqe
        have hc0 := hx.out.cell hv.out.1
        have ltc : w.heap.size < wr.heap.size := World.block_lt_of_cell? wr _ hc0
        have hcf := hid (fun (w' : World) (h : Ext wr w') hc => cc.out wr.heap.size 3 w' (hl.out.ext ((hE1.out.trans hx.out).trans h)) hc)
        go_upto_region 4 with fail
        generalize hw_ : wr.alloc (.cells #[.int .i64 3] 27) = w4
        have hx0 : Ext (wr.alloc (.cells #[.int .i64 3] 27)) w4 := by rw [hw_]; exact Ext.refl _
        clear hw_
        have hcx : w4.cell? ⟨wr.heap.size, 0, none⟩ = some (.int .i64 3) := hx0.cell (by go_simp)
        have hx4 := hid (Ext.trans ((Ext.refl wr).alloc_right _) hx0)
        clear hx0 hc0 ltc
        have ltw : wr.heap.size < w4.heap.size := World.block_lt_of_cell? w4 _ hcx
        have hcfw := hid (hcf.out w4 hx4.out hcx)
        clear hcf
        rcases Bool.eq_false_or_eq_true (hasE l 3) with qq | qq
        · obtain ⟨rfl, rfl⟩ := r3.out qq
          rw [qq] at hcfw
          clear qq r3 r1 r10 rb ry
          go_wp2_with fail
          refine hcfw.out.mono ?_
          rintro e w5 ⟨rfl, hx5⟩
          have hcy := hx5.cell hcx
          have ltx : wr.heap.size < w5.heap.size := World.block_lt_of_cell? w5 _ hcy
          have hE := hid ((((hE1.out.trans hx.out).trans hx4.out).trans hx5))
          clear hx5 hcx ltw
          go_wp2
          go_quiet (fail)
          go_wp2
          go_ret2
          exact ⟨rfl, hE.out.drewN_right _⟩
        · rw [qq] at hcfw
          have nn := hid qq
          clear qq
          go_wp2_with fail
          refine hcfw.out.mono ?_
          rintro e w5 ⟨rfl, hx5⟩
          have hE := hid ((hx.out.trans hx4.out).trans hx5)
          clear hx5 hcx ltw hx4
          go_wp2_with fail
          go_roundw
          case rel => exact ⟨1, by omega, rfl, hE, fun _ => nn.out, fun h => absurd h (by omega)⟩
          case measure => simp [intOf]
      · subst hqe
        have hc0 := hx.out.cell hv.out.2
        have ltc : w.heap.size < wr.heap.size := World.block_lt_of_cell? wr _ hc0
        have hcf := hid (fun (w' : World) (h : Ext wr w') hc => cc.out wr.heap.size 1 w' (hl.out.ext ((hE1.out.trans hx.out).trans h)) hc)
        go_upto_region 4 with fail
        generalize hw_ : wr.alloc (.cells #[.int .i64 1] 27) = w4
        have hx0 : Ext (wr.alloc (.cells #[.int .i64 1] 27)) w4 := by rw [hw_]; exact Ext.refl _
        clear hw_
        have hcx : w4.cell? ⟨wr.heap.size, 0, none⟩ = some (.int .i64 1) := hx0.cell (by go_simp)
        have hx4 := hid (Ext.trans ((Ext.refl wr).alloc_right _) hx0)
        clear hx0 hc0 ltc
        have ltw : wr.heap.size < w4.heap.size := World.block_lt_of_cell? w4 _ hcx
        have hcfw := hid (hcf.out w4 hx4.out hcx)
        clear hcf
        rcases Bool.eq_false_or_eq_true (hasE l 1) with qq | qq
        · obtain ⟨rfl, rfl⟩ := r1.out (hn3.out (by omega)) qq
          rw [qq] at hcfw
          clear qq r3 r1 r10 rb ry
          go_wp2_with fail
          refine hcfw.out.mono ?_
          rintro e w5 ⟨rfl, hx5⟩
          have hcy := hx5.cell hcx
          have ltx : wr.heap.size < w5.heap.size := World.block_lt_of_cell? w5 _ hcy
          have hE := hid ((((hE1.out.trans hx.out).trans hx4.out).trans hx5))
          clear hx5 hcx ltw
          go_wp2
          go_quiet (fail)
          go_wp2
          go_ret2
          exact ⟨rfl, hE.out.drewN_right _⟩
        · rw [qq] at hcfw
          have nn := hid qq
          clear qq
          go_wp2_with fail
          refine hcfw.out.mono ?_
          rintro e w5 ⟨rfl, hx5⟩
          have hE := hid ((hx.out.trans hx4.out).trans hx5)
          clear hx5 hcx ltw hx4
          go_wp2_with fail
          go_roundw
          case rel => exact ⟨2, by omega, rfl, hE, fun _ => hn3.out (by omega), fun _ => nn.out⟩
          case measure => simp [intOf]
    · obtain rfl : q = 2 := by omega
      have h3 := hid (hn3.out (by omega))
      have h1 := hid (hn1.out (by omega))
      have hE := hid (hE1.out.trans hx.out)
      clear hn3 hn1 hE1 hx hv cc r3 r1
      go_wp2_with fail
      refine (ca.out _).mono ?_
      rintro e w5 ⟨rfl, hx5⟩
      replace hE := hid (hE.out.trans hx5)
      clear hx5 ca
      by_cases hnd : n = nd
      rotate_left
      · have d1 : decide ((n : Int) = (nd : Int)) = false := by simp; omega
        have d2 : ((n : Int) != (nd : Int)) = true := by simp; omega
        obtain ⟨rfl, rfl⟩ := r10.out h3.out h1.out (by rw [hlen.out, hdlen.out]; exact hnd)
        clear hnd rb ry r10
        go_wp2
        go_ret2
        exact ⟨rfl, hE.out⟩
      subst hnd
      have hll := hid (hlen.out.trans hdlen.out.symm)
      have d2 : ((n : Int) != (n : Int)) = false := by simp
      replace rb := hid (rb.out h3.out h1.out hll.out)
      replace ry := hid (ry.out h3.out h1.out hll.out)
      clear r10
      have hpl := hid (fun k (hk : k < n) w hm => plain_any (vth l k).1 (vth l k).2.1 (vth l k).2.2 p c (val_ok h3.out h1.out (by rw [hlen.out]; exact hk)) hco w hm)
      unfold vV at hpl
      have hst := hid (fun k (hk : k < n) => row_step (p := p) (c := c) (l := l) (ds := ds) (k := k) (by rw [hlen.out]; exact hk) (by rw [hdlen.out]; exact hk))
      have hsz := hid (fun k => keyB_size (vth l k).1 (vth l k).2.1 (vth l k).2.2 p c)
      have htk := hid (fun k d => turnS_K d (vth l k).1 (vth l k).2.1 (vth l k).2.2 p c)
      have htot : Hid ([] ++ rowL p c (l.drop 0) (ds.drop 0) = rowL p c l ds) := by unfold Hid; rw [List.drop_zero, List.drop_zero]; rfl
      go_wp2_with fail
      go_loopw [13, 41] (fun s i wr => ∃ (k : Nat) (out : ByteArray), k ≤ n ∧ s = .string out ∧ i = .int .i64 k ∧ out.size ≤ k * 99 ∧ Hid (Ext w wr) ∧ Hid (out.toList ++ rowL p c (l.drop k) (ds.drop k) = rowL p c l ds)) (fun _ i _ => n - (intOf i).toNat)
      case atStart => exact ⟨0, { data := #[] }, by omega, rfl, rfl, by decide, hE, by rw [show ByteArray.toList { data := #[] } = [] from emp_list]; exact htot⟩
      clear htot
      case round =>
        obtain ⟨k, out, hk, rfl, rfl, hos, hx, hR⟩ := hrel
        by_cases hlt : k < n
        · obtain ⟨ad, rfl, x0, x1, x2⟩ := (hl.out.ext hx.out).at_ hlt
          obtain ⟨bd, rfl, y0⟩ := (hd.out.ext hx.out).at_ hlt
          have hp := hid (fun w hm => hpl.out k hlt w hm)
          have hs1 := hst.out k hlt
          have hz := hsz.out k
          have ht1 := htk.out k
          rw [hs1] at hR
          rw [← List.append_assoc] at hR
          clear hs1
          rw [show kL (vth l k).1 (vth l k).2.1 (vth l k).2.2 p c = (keyB (vth l k).1 (vth l k).2.1 (vth l k).2.2 p c).toList from (keyB_list _ _ _ _ _).symm] at hR
          clear ht1
          generalize keyB (vth l k).1 (vth l k).2.1 (vth l k).2.2 p c = KB at *
          generalize (vth l k).1 = z0 at *
          generalize (vth l k).2.1 = z1 at *
          generalize (vth l k).2.2 = z2 at *
          generalize both_ ds k = d at *
          have hR2 : Hid ((out ++ turnS d KB).toList ++ rowL p c (l.drop (k + 1)) (ds.drop (k + 1)) = rowL p c l ds) := by unfold Hid; rw [add_list, turnS_list]; exact hR.out
          clear hR
          have hts := turnS_size d KB
          have ad1 := str_add out (turnS d KB) (by omega)
          have hos2 : (out ++ turnS d KB).size ≤ (k + 1) * 99 := by rw [ByteArray.size_append]; omega
          clear hts
          have cT1 := hid (fun w => turn1_any KB w)
          have cT2 := hid (fun w => turn2_any KB (by omega) w)
          rw [← turnS_t] at cT2
          have ctr := hid (fun w => turner_any d w)
          go_upto_region 16 with fail
          generalize hw_ : wr.alloc (.cells #[.int .i64 z0, .int .i64 z1, .string z2] 23) = w4
          have hx4 : Ext (wr.alloc (.cells #[.int .i64 z0, .int .i64 z1, .string z2] 23)) w4 := by rw [hw_]; exact Ext.refl _
          clear hw_
          obtain ⟨B, hB⟩ : ∃ B, B = wr.heap.size := ⟨_, rfl⟩
          have b0 : w4.cell? ⟨wr.heap.size, 0, none⟩ = some (.int .i64 z0) := hx4.cell (by go_simp)
          have b1 : w4.cell? ⟨wr.heap.size, 1, none⟩ = some (.int .i64 z1) := hx4.cell (by go_simp)
          have b2 : w4.cell? ⟨wr.heap.size, 2, none⟩ = some (.string z2) := hx4.cell (by go_simp)
          have yb := hx4.cell (cell_alloc y0 _)
          have hE4 := hid ((hx.out.alloc_right _).trans hx4)
          rw [← hB] at b0 b1 b2 ⊢
          clear hB hx4 x0 x1 x2 y0
          have HS : Hid (∀ w', Ext w4 w' → (w'.cell? ⟨B, 0, none⟩ = some (.int .i64 z0) ∧ w'.cell? ⟨B, 1, none⟩ = some (.int .i64 z1) ∧ w'.cell? ⟨B, 2, none⟩ = some (.string z2) ∧ B < w'.heap.size ∧ w'.cell? (bd.add k) = some (.bool d) ∧ Ext w4 w')) := fun w' hx => ⟨hx.cell b0, hx.cell b1, hx.cell b2, World.block_lt_of_cell? w' _ (hx.cell b0), hx.cell yb, hx⟩
          cases d with
          | false =>
            have en := enterT1
            rw [turnS_f] at ad1 hR2 hos2
            go_wp2_with fail
            have I := hid (HS.out w4.drew (Ext.refl w4).drew_right)
            clear b0 b1 b2 yb
            go_region_held3 (fun w' => w'.cell? ⟨B, 0, none⟩ = some (.int .i64 z0) ∧ w'.cell? ⟨B, 1, none⟩ = some (.int .i64 z1) ∧ w'.cell? ⟨B, 2, none⟩ = some (.string z2) ∧ B < w'.heap.size ∧ w'.cell? (bd.add k) = some (.bool false) ∧ Ext w4 w')
              ((first | exact I.out | (go_split_ands; exact HS.out _ (by assumption)) | (go_split_ands; exact HS.out _ (Ext.trans (by assumption) hx6))))
              ((first | (go_at_call 56; go_split_ands; refine (ctr.out _).mono ?_; rintro e w5 ⟨rfl, rfl⟩) | (go_at_call 57; go_split_ands; refine (hp.out _ (hm.out.ext (Ext.trans hE4.out (by assumption)))).mono ?_; rintro e w6 ⟨rfl, hx6⟩) | (go_at_call 80; go_split_ands; refine (cT1.out _).mono ?_; rintro e w7 ⟨rfl, rfl⟩)))
            all_goals
              go_wp2_with fail
              go_roundw
              case rel => exact ⟨k + 1, _, by omega, rfl, by go_num, hos2, hid (Ext.trans hE4.out (by first | assumption | exact Ext.trans (by assumption) hx6)), hR2⟩
              case measure => simp [intOf]; omega
          | true =>
            have en := enterT2
            generalize turnS true KB = TK at *
            go_wp2_with fail
            have I := hid (HS.out w4.drew (Ext.refl w4).drew_right)
            clear b0 b1 b2 yb
            go_region_held3 (fun w' => w'.cell? ⟨B, 0, none⟩ = some (.int .i64 z0) ∧ w'.cell? ⟨B, 1, none⟩ = some (.int .i64 z1) ∧ w'.cell? ⟨B, 2, none⟩ = some (.string z2) ∧ B < w'.heap.size ∧ w'.cell? (bd.add k) = some (.bool true) ∧ Ext w4 w')
              ((first | exact I.out | (go_split_ands; exact HS.out _ (by assumption)) | (go_split_ands; exact HS.out _ (Ext.trans (by assumption) hx6)) | (go_split_ands; exact HS.out _ (Ext.trans (by assumption) hx7))))
              ((first | (go_at_call 56; go_split_ands; refine (ctr.out _).mono ?_; rintro e w5 ⟨rfl, rfl⟩) | (go_at_call 57; go_split_ands; refine (hp.out _ (hm.out.ext (Ext.trans hE4.out (by assumption)))).mono ?_; rintro e w6 ⟨rfl, hx6⟩) | (go_at_call 81; go_split_ands; refine (cT2.out _).mono ?_; rintro e w7 ⟨rfl, hx7⟩)))
            all_goals
              go_wp2_with fail
              go_roundw
              case rel => exact ⟨k + 1, _, by omega, rfl, by go_num, hos2, hid (Ext.trans hE4.out (by first | assumption | exact Ext.trans (by assumption) hx6 | exact Ext.trans (by assumption) hx7)), hR2⟩
              case measure => simp [intOf]; omega
        · obtain rfl : k = n := by omega
          rw [List.drop_of_length_le (by rw [hlen.out]; exact Nat.le_refl _), row_nil, List.append_nil] at hR
          have hos3 : out.size = (rowL p c l ds).length := by rw [← hR.out, len_toList]
          have hosz : Hid (out = strB (rowL p c l ds)) := by unfold Hid; rw [← hR.out, strB_id]
          by_cases hbg : 100 < out.size
          · have d3 : decide ((100 : Int) < (out.size : Int)) = true := by simp; omega
            obtain ⟨rfl, rfl⟩ := rb.out (by rw [← hos3]; exact hbg)
            clear hos3 hbg rb ry hR hosz
            go_wp2
            go_ret2
            exact ⟨rfl, hx.out⟩
          · have d3 : decide ((100 : Int) < (out.size : Int)) = false := by simp; omega
            obtain ⟨rfl, rfl⟩ := ry.out (by rw [← hos3]; exact hbg)
            clear hos3 hbg rb ry hR
            go_wp2
            go_ret2
            exact ⟨by rw [← hosz.out]; rfl, hx.out⟩
end Go.Proofs.YtlfanhlkoepodaaDoor
