/-
  Bytes of both; Load of both; the law of what is wrong with an index; Ported contracts (K19, RV); Regions that draw their order, taken step by step, where what is asked of the world holds only until a given store: bound to no program; sameTree: an index that has its entries, in their order, as one that is built of them, and as its index and its bytes say.
-/
import Derived.Test.YtjjikkhhlpikbaaGreatDoorQ14
import Derived.Test.YtjjikkhhlpikbaaGreatDoorQ12
import Derived.Test.YtjjikkhhlpikbaaGreatDoorQ2
import Derived.Deep.RegionWith
import Derived.ProofKit
import Derived.OpenShut
import Derived.ShutString
import Derived.Lib.SmallJoins
import Derived.Deep.Slices
import Derived.Deep.Fields
import Derived.ChangeSame
set_option maxRecDepth 100000
set_option maxHeartbeats 40000000
set_option linter.unusedVariables false
set_option linter.unusedSimpArgs false
namespace Go.Proofs.YtjjikkhhlpikbaaGreatDoor
open Go.RowKit Go.Shelf
noncomputable def bysX (xs : List Nx) : List Int := if wrongX xs = 0 then bytesX xs else []
def GiveBy (xs : List Nx) (w : World) (e : Ending) (w' : World) : Prop := ∃ A n c, e = .returned (.tuple #[.slice A n c, .int .i64 (chkE xs)]) ∧ RdB w' A n c (bysX xs) ∧ Ext w w'
theorem Bytes_any (A : Option Addr) (n c : Nat) (xs : List Nx) (w : World) (hr : RX w A n c xs) : Calls Tryz.prog 34 #[.agg #[.slice A n c]] w (GiveBy xs w) := by
  obtain hn := hr.len
  have hm := RX.max hr
  have hx1 := hid ((Ext.refl w).alloc_right (.cells #[.slice A n c] 82))
  have hb0 := heap_alloc_new w (.cells #[.slice A n c] 82)
  have hck := hid (fun w' (hx : Ext w w') => pCheck_any A n c xs w' (hr.ext hx))
  replace hr := hid hr
  by_cases h0 : wrongX xs = 0
  · have hN := hid (fun k (hk : k < xs.length) => okN_at h0 hk)
    have hE : Hid (bysX xs = bytesX xs ∧ chkE xs = 0) := ⟨if_pos h0, if_pos h0⟩
    have hnn := (wrong_none.1 h0).2.1
    have hisB := hid (bytes_isB h0)
    rw [h0, hE.out.2] at hck
    rw [hn] at hnn
    replace hn := hid hn
    clear h0
    go_enter Tryz.func34, Tryz.ntmps34
    go_upto_region 1 with fail
    obtain ⟨b, hb⟩ : ∃ b, b = w.heap.size := ⟨_, rfl⟩
    rw [← hb] at hb0
    simp only [← hb]
    replace hb := hid hb
    generalize w.alloc (.cells #[.slice A n c] 82) = w1 at *
    have hcell : Hid (∀ w', Ext w1 w' → w'.cell? ⟨b, 0, none⟩ = some (.slice A n c) ∧ b < w'.heap.size ∧ w'.heap[b]? = some (.cells #[.slice A n c] 82 (0, 0))) := fun w' hx => by
      have h := (hx.block (Array.getElem?_eq_some_iff.1 hb0).1).trans hb0
      exact ⟨by rw [Lib.cell_of_heap h]; rfl, (Array.getElem?_eq_some_iff.1 h).1, h⟩
    clear hb0
    obtain ⟨zb, lb, -⟩ := hcell.out _ (Ext.refl _)
    go_wp2_with fail
    refine (hck.out _ hx1.out).mono ?_
    rintro e w2 ⟨rfl, hx2⟩
    replace hx1 := hid (hx1.out.trans hx2)
    clear zb lb hck
    obtain ⟨zb, lb, hbb⟩ := hcell.out _ hx2
    have hcell2 : Hid (∀ w', Ext w2 w' → w'.cell? ⟨b, 0, none⟩ = some (.slice A n c) ∧ b < w'.heap.size ∧ w'.heap[b]? = some (.cells #[.slice A n c] 82 (0, 0))) := fun w' hx => hcell.out _ (hx2.trans hx)
    clear hcell hx2
    have hTw := hid (ptwo_any w2 w2 (.slice none 0 0) [] n b _ _ (OW.nil (Ext.refl _) hbb (by decide)) (by simp) (by omega))
    clear hbb
    go_wp2_with fail
    refine hTw.out.mono ?_
    rintro e w3 ⟨A6, n6, c6, rfl, hn6, hO⟩
    replace hO := hid hO
    clear hTw zb lb
    have hL0 : Hid ((([] ++ twoL n) : List Int) = twoL n) := rfl
    rw [hL0.out] at hO hn6
    obtain ⟨zb, lb, -⟩ := hcell2.out _ hO.out.1
    go_wp2_with fail
    clear zb lb
    go_loopw [6, 28] (fun o i wr => ∃ (k : Nat) (A6 : Option Addr) (n6 c6 : Nat), k ≤ n ∧ i = .int .i64 k ∧ o = .slice A6 n6 c6 ∧ Hid (OW w2 wr (.slice A6 n6 c6) (twoL n ++ (xs.take k).flatMap ndB) b #[.slice A n c] 82)) (fun _ i _ => n - (intOf i).toNat)
    case atStart => exact ⟨0, _, _, _, by omega, rfl, rfl, hid (by have := hO.out; simpa using this)⟩
    case round =>
      clear hO hn6
      obtain ⟨k, A6, n6, c6, hk, rfl, rfl, hO⟩ := hrel
      obtain ⟨zb, lb, -⟩ := hcell2.out _ hO.out.1
      by_cases hlt : k < n
      · have hki : (k : Int) < (n : Int) := by omega
        obtain ⟨ad0, A1, c1, A2, c2, A3, c3, rfl, y0, y1, y2, r1, r2, r3⟩ := hr.out.at_ hlt
        have hNk := hN.out k (by rw [hn.out]; exact hlt)
        obtain ⟨x, hx⟩ : ∃ x, x = xth xs k := ⟨_, rfl⟩
        have hPL := hid (show ((xs.take (k + 1)).flatMap ndB = (xs.take k).flatMap ndB ++ ndB x) by rw [flat_snoc (by rw [hn.out]; exact hlt), hx, xth_get (by rw [hn.out]; exact hlt)])
        have hPb : Hid (((xs.take k).flatMap ndB).length ≤ 1017600) := by
          have h := flat_lenB (l := xs.take k) (F := ndB) (m := 424) (fun y hy => by
            obtain ⟨q, hq, rfl⟩ := List.getElem_of_mem (List.mem_of_mem_take hy)
            rw [← xth_get hq]
            exact nd_len (hN.out q hq))
          have h2 : (xs.take k).length ≤ 2400 := by rw [List.length_take]; omega
          have h3 : (xs.take k).length * 424 ≤ 2400 * 424 := Nat.mul_le_mul_right _ h2
          show ((xs.take k).flatMap ndB).length ≤ 1017600
          omega
        rw [← hx] at y0 y1 y2 r1 r2 r3 hNk
        replace hx := hid hx
        generalize (xs.take k).flatMap ndB = P at *
        obtain ⟨o1, o2, o3, o4, o5⟩ := hNk
        have hxw := hx1.out.trans hO.out.1
        replace y0 := hxw.cell y0
        replace y1 := hxw.cell y1
        replace y2 := hxw.cell y2
        clear hxw
        obtain ⟨m1, hm1⟩ : ∃ m1, x.keys.length = m1 := ⟨_, rfl⟩
        obtain ⟨m2, hm2⟩ : ∃ m2, x.recs.length = m2 := ⟨_, rfl⟩
        obtain ⟨m3, hm3⟩ : ∃ m3, x.kids.length = m3 := ⟨_, rfl⟩
        rw [hm1] at y0 o1 o2
        rw [hm2] at y1 o1
        rw [hm3] at y2 o3
        subst o1
        have q1 : m2 ≤ 4 := o2
        have q3 : m3 ≤ 5 := o3
        have hE2 : Hid ((ents x).length = m2) := by unfold Hid; rw [ents_len (by rw [hm1, hm2])]; exact hm1
        replace r1 := hid r1
        replace r2 := hid r2
        replace r3 := hid r3
        replace o4 := hid o4
        replace o5 := hid o5
        replace hm1 := hid hm1
        replace hm2 := hid hm2
        replace hm3 := hid hm3
        have u1 := IntWalk.u8_in (m2 : Int) (by omega)
        have u3 := IntWalk.u8_in (m3 : Int) (by omega)
        have hxa := (Ext.refl wr).alloc_right (.cells #[.slice A1 m2 c1, .slice A2 m2 c2, .slice A3 m3 c3] 113)
        have hna := heap_alloc_new wr (.cells #[.slice A1 m2 c1, .slice A2 m2 c2, .slice A3 m3 c3] 113)
        go_upto_region 8 with fail
        obtain ⟨p, hp⟩ : ∃ p, p = wr.heap.size := ⟨_, rfl⟩
        rw [← hp] at hna
        simp only [← hp]
        clear zb lb y0 y1 y2
        have hOa := (hO.out.up hxa).swap hna (by decide)
        clear hO
        generalize wr.alloc (.cells #[.slice A1 m2 c1, .slice A2 m2 c2, .slice A3 m3 c3] 113) = wa at *
        clear hxa hp
        obtain ⟨z0, z1, z2⟩ := nd3_c hna
        have lp := (Array.getElem?_eq_some_iff.1 hna).1
        clear hna
        have hxb := (Ext.refl wa).alloc_right (.cells #[.int .u8 (m2 : Int), .int .u8 (m3 : Int)] 5)
        obtain ⟨A7, n7, c7, w7, hn7, happ, hO7⟩ := (hOa.up hxb).app (M := [(m2 : Int), (m3 : Int)]) (rd_new2 wa _ _) (by simp [twoL]; have := hPb.out; omega) (by simp)
        replace happ := hid happ
        replace hO7 := hid hO7
        clear hOa hxb
        obtain ⟨y0, y1, y2⟩ := nd3_c hO7.out.2.2.1
        have ly := (Array.getElem?_eq_some_iff.1 hO7.out.2.2.1).1
        go_wp2_with (at_builtin; refine wpList_app rfl _ _ 84 84 rfl _ _ rfl rfl _ happ.out ?_)
        go_wp2_with fail
        clear z0 z1 z2 lp happ u1 u3 hn7 y0 y1 y2 ly
        go_loopw [6, 46] (fun o i wr => ∃ (q : Nat) (A8 : Option Addr) (n8 c8 : Nat), q ≤ m2 ∧ i = .int .i64 q ∧ o = .slice A8 n8 c8 ∧ Hid (OW w2 wr (.slice A8 n8 c8) (twoL n ++ P ++ [(m2 : Int), (m3 : Int)] ++ ((ents x).take q).flatMap kvB) p #[.slice A1 m2 c1, .slice A2 m2 c2, .slice A3 m3 c3] 113)) (fun _ i _ => m2 - (intOf i).toNat)
        case atStart => exact ⟨0, _, _, _, by omega, rfl, rfl, hid (by have := hO7.out; simpa using this)⟩
        case round =>
          clear hO7
          obtain ⟨q, A8, n8, c8, hq, rfl, rfl, hO⟩ := hrel
          obtain ⟨z0, z1, z2⟩ := nd3_c hO.out.2.2.1
          have lp := (Array.getElem?_eq_some_iff.1 hO.out.2.2.1).1
          by_cases hqt : q < m2
          · have hqi : (q : Int) < (m2 : Int) := by omega
            have hxo := hx1.out.trans hO.out.1
            obtain ⟨kad, rfl, zk⟩ := rds_at (r1.out.ext hxo) (k := q) (by rw [hm1.out]; exact hqt)
            obtain ⟨rad, rfl, zr⟩ := RdI.at_ (r2.out) (k := q) (by rw [hm2.out]; exact hqt)
            have het : tth (ents x) q = ⟨sth x.keys q, ith x.recs q⟩ := ents_at (by rw [hm1.out, hm2.out]) (by rw [hm1.out]; exact hqt)
            have hok : (sth x.keys q).size ≤ 100 ∧ 1 ≤ ith x.recs q ∧ ith x.recs q ≤ 300 := by
              have h := okT_is (o4.out (tth (ents x) q) (by rw [tth_get (by rw [hE2.out]; exact hqt)]; exact List.getElem_mem _))
              rw [het] at h
              exact h
            have hKL := hid (show (((ents x).take (q + 1)).flatMap kvB = ((ents x).take q).flatMap kvB ++ kvB ⟨sth x.keys q, ith x.recs q⟩) by rw [flat_snoc (by rw [hE2.out]; exact hqt), ← tth_get (by rw [hE2.out]; exact hqt), het])
            have hQb : Hid ((((ents x).take q).flatMap kvB).length ≤ 412) := by
              have h := flat_lenB (l := (ents x).take q) (F := kvB) (m := 103) (fun y hy => kv_len (o4.out y (List.mem_of_mem_take hy)))
              have h2 : ((ents x).take q).length ≤ 4 := by rw [List.length_take]; omega
              have h3 : ((ents x).take q).length * 103 ≤ 4 * 103 := Nat.mul_le_mul_right _ h2
              show (((ents x).take q).flatMap kvB).length ≤ 412
              omega
            generalize ((ents x).take q).flatMap kvB = Q at *
            have hrr : Hid (nth x.recs q = ith x.recs q) := rfl
            rw [hrr.out] at zr
            generalize sth x.keys q = s at *
            generalize ith x.recs q = z at *
            replace hok := hid hok
            obtain ⟨k1, k2, k3⟩ := hok.out
            clear het
            have u1 := IntWalk.u8_in (s.size : Int) (by omega)
            have zr0 := hid zr
            replace zr := hxo.cell zr
            have hxb := (Ext.refl wr).alloc_right (.cells #[.int .u8 (s.size : Int)] 5)
            obtain ⟨A7, n7, c7, w7, hn7, happ, hO7⟩ := (hO.out.up hxb).app (M := [(s.size : Int)]) (rd_new1 wr _ _) (by simp [twoL]; have := hPb.out; have := hQb.out; omega) (by simp)
            obtain ⟨A9, n9, c9, w9, hn9, happ2, hO9⟩ := hO7.appS s (by simp [twoL]; have := hPb.out; have := hQb.out; omega) (by omega)
            have hTw := hid (ptwo_any w2 w9 _ _ z p _ _ hO9 (by simp [twoL, txt_len]; have := hPb.out; have := hQb.out; omega) (by omega))
            replace happ := hid happ
            replace happ2 := hid happ2
            have hx9 := hid (hx1.out.trans hO9.1)
            obtain ⟨y0, y1, y2⟩ := nd3_c hO9.2.2.1
            have ly := (Array.getElem?_eq_some_iff.1 hO9.2.2.1).1
            have zr := hx9.out.cell zr0.out
            clear hxb hO hO7 hxo hO9
            go_wp2_with (at_builtin; first | (refine wpList_app rfl _ _ 84 84 rfl _ _ rfl rfl _ happ.out ?_) | (refine wpList_app rfl _ _ 84 9 rfl _ _ rfl rfl _ happ2.out ?_))
            refine hTw.out.mono ?_
            rintro e w10 ⟨A5, n5, c5, rfl, hn5, hO5⟩
            have hOe : Hid (OW w2 w10 (.slice A5 n5 c5) (twoL n ++ P ++ [(m2 : Int), (m3 : Int)] ++ ((ents x).take (q + 1)).flatMap kvB) p #[.slice (some kad) m2 c1, .slice (some rad) m2 c2, .slice A3 m3 c3] 113) := by
              have h := hO5
              rw [hKL.out]
              refine hid ?_
              show OW _ _ _ (_ ++ (Q ++ ((s.size : Int) :: (txt s ++ twoL z)))) _ _ _
              simpa using h
            clear hTw hO5 hKL zr z0 z1 z2 lp y0 y1 y2 ly zk u1 happ happ2
            go_wp2_with fail
            go_roundw
            case rel => exact ⟨q + 1, _, _, _, by omega, by go_num, rfl, hOe⟩
            case measure => simp [intOf]; omega
          · obtain rfl : q = m2 := by omega
            have hKQ : Hid ((ents x).take q = ents x) := List.take_of_length_le (by rw [hE2.out]; exact Nat.le_refl _)
            rw [hKQ.out] at hO
            have hQb : Hid (((ents x).flatMap kvB).length ≤ 412) := by
              have h := flat_lenB (l := ents x) (F := kvB) (m := 103) (fun y hy => kv_len (o4.out y hy))
              have := hE2.out
              show ((ents x).flatMap kvB).length ≤ 412
              omega
            go_wp2_with fail
            clear z0 z1 z2 lp
            go_loopw [6, 70] (fun o i wr => ∃ (j : Nat) (A8 : Option Addr) (n8 c8 : Nat), j ≤ m3 ∧ i = .int .i64 j ∧ o = .slice A8 n8 c8 ∧ Hid (OW w2 wr (.slice A8 n8 c8) (twoL n ++ P ++ [(q : Int), (m3 : Int)] ++ (ents x).flatMap kvB ++ (x.kids.take j).flatMap twoL) p #[.slice A1 q c1, .slice A2 q c2, .slice A3 m3 c3] 113)) (fun _ i _ => m3 - (intOf i).toNat)
            case atStart => exact ⟨0, _, _, _, by omega, rfl, rfl, hid (by have := hO.out; simpa using this)⟩
            case round =>
              clear hO
              obtain ⟨j, A8, n8, c8, hj, rfl, rfl, hO⟩ := hrel
              obtain ⟨z0, z1, z2⟩ := nd3_c hO.out.2.2.1
              have lp := (Array.getElem?_eq_some_iff.1 hO.out.2.2.1).1
              by_cases hjt : j < m3
              · have hji : (j : Int) < (m3 : Int) := by omega
                obtain ⟨dad, rfl, zd⟩ := RdI.at_ (r3.out.ext (hx1.out.trans hO.out.1)) (k := j) (by rw [hm3.out]; exact hjt)
                have hzz : nth x.kids j = x.kids[j]'(by rw [hm3.out]; exact hjt) := nth_lt (by rw [hm3.out]; exact hjt)
                have hDL := hid (show ((x.kids.take (j + 1)).flatMap twoL = (x.kids.take j).flatMap twoL ++ twoL (nth x.kids j)) by rw [flat_snoc (by rw [hm3.out]; exact hjt), hzz])
                have hz5 : 0 ≤ nth x.kids j ∧ nth x.kids j ≤ 65535 := by rw [hzz]; exact o5.out _ (List.getElem_mem _)
                have hDb : Hid (((x.kids.take j).flatMap twoL).length ≤ 10) := by
                  have h := flat_lenB (l := x.kids.take j) (F := twoL) (m := 2) (fun y hy => Nat.le_refl _)
                  have h2 : (x.kids.take j).length ≤ 5 := by rw [List.length_take]; omega
                  show ((x.kids.take j).flatMap twoL).length ≤ 10
                  omega
                clear hzz
                generalize (x.kids.take j).flatMap twoL = D at *
                generalize (ents x).flatMap kvB = Q at *
                generalize nth x.kids j = z at *
                have hTw := hid (ptwo_any w2 wr _ _ z p _ _ hO.out (by simp [twoL]; have := hPb.out; have := hQb.out; have := hDb.out; omega) hz5)
                clear hO
                go_wp2_with fail
                refine hTw.out.mono ?_
                rintro e w10 ⟨A5, n5, c5, rfl, hn5, hO5⟩
                have hOe : Hid (OW w2 w10 (.slice A5 n5 c5) (twoL n ++ P ++ [(q : Int), (m3 : Int)] ++ Q ++ (x.kids.take (j + 1)).flatMap twoL) p #[.slice A1 q c1, .slice A2 q c2, .slice (some dad) m3 c3] 113) := by
                  have h := hO5
                  rw [hDL.out]
                  refine hid ?_
                  simpa using h
                clear hTw hO5 hDL zd z0 z1 z2 lp
                go_wp2_with fail
                go_roundw
                case rel => exact ⟨j + 1, _, _, _, by omega, by go_num, rfl, hOe⟩
                case measure => simp [intOf]; omega
              · obtain rfl : j = m3 := by omega
                have hfin : Hid (twoL n ++ P ++ [(q : Int), (j : Int)] ++ (ents x).flatMap kvB ++ (x.kids.take j).flatMap twoL = twoL n ++ (xs.take (k + 1)).flatMap ndB) := by
                  rw [show x.kids.take j = x.kids from List.take_of_length_le (by rw [hm3.out]; exact Nat.le_refl _), hPL.out]
                  show _ = twoL n ++ (P ++ ((x.keys.length : Int) :: (x.kids.length : Int) :: ((ents x).flatMap kvB ++ x.kids.flatMap twoL)))
                  rw [hm1.out, hm3.out]
                  simp
                rw [hfin.out] at hO
                have hOb := hid (hO.out.swap (hcell2.out _ hO.out.1).2.2 (by decide))
                clear hO hPL hfin
                go_wp2_with fail
                go_roundw
                case rel => exact ⟨k + 1, _, _, _, by omega, by go_num, rfl, hOb⟩
                case measure => simp [intOf]; omega
      · obtain rfl : k = n := by omega
        have hall : Hid (twoL k ++ (xs.take k).flatMap ndB = bytesX xs) := by
          rw [show xs.take k = xs from List.take_of_length_le (by rw [hn.out]; exact Nat.le_refl _)]
          unfold Hid bytesX
          rw [hn.out]
        rw [hall.out] at hO
        obtain ⟨A9, c9, e9, hrd⟩ := hO.out.rd hisB.out
        injection e9 with e9 e8 e7
        subst e9 e8 e7
        have hfin : Hid (GiveBy xs w (.returned (.tuple #[.slice A6 (bytesX xs).length c6, .int .i64 0])) wr) := by
          refine ⟨A6, (bytesX xs).length, c6, ?_, ?_, hx1.out.trans hO.out.1⟩
          · rw [hE.out.2]
          · rw [hE.out.1]; exact hrd
        generalize (bytesX xs).length = N9 at *
        clear hO hrd
        go_wp2
        go_ret2
        exact hfin.out
  · have hE : Hid (bysX xs = [] ∧ chkE xs = 11) := ⟨if_neg h0, if_neg h0⟩
    rw [hE.out.2] at hck
    have hfin : Hid (∀ w', Ext w w' → GiveBy xs w (.returned (.tuple #[.slice none 0 0, .int .i64 11])) w') := fun w' hx => by
      refine ⟨none, 0, 0, ?_, ?_, hx⟩
      · rw [hE.out.2]
      · rw [hE.out.1]; exact ⟨Rd.none_ _ 1, isB_nil⟩
    clear h0
    go_enter Tryz.func34, Tryz.ntmps34
    go_upto_region 1 with fail
    have zb : (w.alloc (.cells #[.slice A n c] 82)).cell? ⟨w.heap.size, 0, none⟩ = some (.slice A n c) := by rw [Lib.cell_of_heap hb0]; rfl
    have lb := (Array.getElem?_eq_some_iff.1 hb0).1
    clear hb0
    go_wp2_with fail
    refine (hck.out _ hx1.out).mono ?_
    rintro e w2 ⟨rfl, hx2⟩
    go_wp2
    go_ret2
    exact hfin.out _ (hx1.out.trans hx2)
open Go.RowKit Go.Shelf
theorem btx_l (xs : List Nx) (h k : Nat) : (btx xs h k).l = ents (xth xs k) := by cases h <;> rfl
theorem btx_shp {xs : List Nx} (hs : shpX xs) (hf : fullP xs) (ok : okP xs.length (allK xs)) : ∀ {h k : Nat}, UD xs h k → Shp h (btx xs h k)
  | 0, k, _ => rfl
  | h + 1, k, a => by
    have s2 := btx_shw hs a
    refine ⟨s2.1, fun K hK => ?_⟩
    obtain ⟨u, hu, rfl⟩ := List.mem_map.1 hK
    have h1 := kd_rng ok hu
    have s3 := shape_is (hs u h1.2)
    have h2 := hf u h1.2
    rw [if_neg (by omega)] at h2
    rw [btx_l, ents_len s3.1]
    exact ⟨h2, s3.2.1, btx_shp hs hf ok (a.2.2 u hu)⟩
def GiveLT (xs : List Nx) (w : World) (e : Ending) (w' : World) : Prop := ∃ v E, e = .returned (.tuple #[v, .int .i64 E]) ∧ Ext w w' ∧ E = chkE xs ∧ (E = 0 → ∃ t h p T fT, v = .pointer (some ⟨t, 0, none⟩) ∧ TreeAt 0 w' t (entX xs) h p T fT ∧ (∀ a, a < w.heap.size → fT a = 0) ∧ w.heap.size ≤ t ∧ (lst h T 0).length ≤ 2400) ∧ (E ≠ 0 → v = .pointer none)
theorem chk_if (xs : List Nx) : chkE xs = 0 ∧ wrongX xs = 0 ∨ chkE xs = 11 := by
  unfold chkE
  by_cases h : wrongX xs = 0
  · exact .inl ⟨if_pos h, h⟩
  · exact .inr (if_neg h)
theorem lt_no {xs : List Nx} {w w' : World} (hx : Ext w w') (h : chkE xs = 11) : GiveLT xs w (.returned (.tuple #[.pointer none, .int .i64 11])) w' := ⟨_, _, rfl, hx, h.symm, fun h => absurd h (by decide), fun _ => rfl⟩
theorem Load_any (A : Option Addr) (n c : Nat) (xs : List Nx) (w : World) (hr : RX w A n c xs) : Calls Tryz.prog 36 #[.agg #[.slice A n c]] w (GiveLT xs w) := by
  have hx1 := (Ext.refl w).alloc_right (.cells #[.slice A n c] 82)
  have hb0 := heap_alloc_new w (.cells #[.slice A n c] 82)
  have zb : (w.alloc (.cells #[.slice A n c] 82)).cell? ⟨w.heap.size, 0, none⟩ = some (.slice A n c) := by rw [Lib.cell_of_heap hb0]; rfl
  have lb := World.block_lt_of_cell? _ _ zb
  dsimp only at lb
  replace hx1 := hid hx1
  clear hb0
  have hck := hid (fun w' (hx : Ext w w') => pCheck_any A n c xs w' (hr.ext hx))
  rcases chk_if xs with ⟨h0, hw0⟩ | h0
  · obtain ⟨c1, c1', c2, c3, c4, ⟨hh, hU⟩, c6, c7⟩ := wrong_none.1 hw0
    have hl := hr.len
    have hUT := tree_ut c3 (by omega)
    have hsl := sub_le c3 (by omega) hUT
    have okN := c3.1
    rw [hl] at okN
    have hent : flat hh (btx xs hh 0) = entX xs := by unfold entX; rw [hX_is hU]
    have hMd := hid (fun w' (hx : Ext w w') => made_any n xs okN c2 hh 0 A c w' (hr.ext hx) hU)
    have hEl := entX_len hw0
    have s0 := shape_is (c2 0 (by omega))
    have hshp := btx_shp c2 c4 c3.1 hU
    have hl4 : (btx xs hh 0).l.length ≤ 4 := by rw [btx_l, ents_len s0.1]; exact s0.2.1
    have hl1 : hh ≠ 0 → 1 ≤ (btx xs hh 0).l.length := fun h9 => by
      have h8 := c4 0 (by omega)
      rw [if_pos rfl] at h8
      rw [btx_l, ents_len s0.1]
      have : (xth xs 0).kids.length ≠ 0 := fun e => by
        cases hh with
        | zero => exact h9 rfl
        | succ hh => exact hU.2.1 (List.eq_nil_of_length_eq_zero (by rw [kd_len]; exact e))
      omega
    have hln : (lst hh (btx xs hh 0) 0).length ≤ 2400 := by rw [lst_len hU hUT]; omega
    have hmk := hid (fun (w5 : World) (t p : Nat) (f : Nat → Nat) (q : Nat) (e1 : w5.heap[t]? = some (.cells #[.int .i32 0, .int .u32 q, .pointer (some ⟨p, 0, none⟩), .int .i64 (entX xs).length] 57 (0, 0))) (e2 : TN w5 hh p (btx xs hh 0) f) (e3 : ∀ a, one1 t a + f a ≤ 1) => (⟨⟨q, e1⟩, e2, e3, hshp, hl4, hl1, hent, c7, c6, by omega⟩ : TreeAt 0 w5 t (entX xs) hh p (btx xs hh 0) f))
    have hAl := hid (fun w6 p f (hTN : TN w6 hh p (btx xs hh 0) f) => all_any hh p (btx xs hh 0) f 0 (.slice none 0 0) [] w6 hTN hshp.w (fun a ha => by rw [show ob (.slice none 0 0) a = 0 from if_neg (by intro e; cases e)] at ha; omega) (World.ownsRow_nil _ _ _ _) (Nat.zero_le _) (by rw [List.length_nil, Nat.zero_add, hent]; omega))
    rw [hent] at hAl
    rw [h0] at hck
    replace h0 := hid h0
    replace hln := hid hln
    clear hr hw0 c1 c1' c2 c3 c4 hU c6 c7 hUT hsl okN hent s0 hshp hl4 hl1 hl
    generalize wrongX xs = W at *
    generalize hEX : entX xs = L at *
    replace hEX := hid hEX
    generalize btx xs hh 0 = T at *
    go_enter Tryz.func36, Tryz.ntmps36
    go_upto_region 1 with fail
    obtain ⟨b, hb⟩ : ∃ b, b = w.heap.size := ⟨_, rfl⟩
    rw [← hb] at zb lb
    simp only [← hb]
    replace hb := hid hb
    generalize w.alloc (.cells #[.slice A n c] 82) = w1 at *
    go_wp2_with fail
    refine (hck.out _ hx1.out).mono ?_
    rintro e w2 ⟨rfl, hx2⟩
    replace hx1 := hid (hx1.out.trans hx2)
    replace zb := hx2.cell zb
    replace lb := Nat.lt_of_lt_of_le lb hx2.size
    clear hck hx2
    go_wp2_with fail
    refine (hMd.out _ hx1.out).mono ?_
    rintro e w3 ⟨p, f, rfl, hTN, hf1, hf0, hx3⟩
    have hxa := (Ext.refl w3).alloc_right (.cells #[.int .i32 0, .int .u32 0, .pointer (some ⟨p, 0, none⟩), .int .i64 0] 57)
    have hta := heap_alloc_new w3 (.cells #[.int .i32 0, .int .u32 0, .pointer (some ⟨p, 0, none⟩), .int .i64 0] 57)
    have hft : ∀ a, one1 w3.heap.size a + f a ≤ 1 := fun a => by
      by_cases e : a = w3.heap.size
      · rw [e, one_self, TN.bound hTN _ (Nat.le_refl _)]; exact Nat.le_refl _
      · rw [show one1 w3.heap.size a = 0 from if_neg e]; have := hf1 a; omega
    replace hTN := hid (hTN.ext hxa)
    have hx4 := hid (hx1.out.trans (hx3.trans hxa))
    have hx13 := hid (hx1.out.trans hx3)
    have hf00 : Hid (∀ a, a < w.heap.size → f a = 0) := fun a ha => hf0 a (Nat.lt_of_lt_of_le ha hx1.out.size)
    have hwt : Hid (w.heap.size ≤ w3.heap.size) := hx13.out.size
    clear hMd hxa hx3 hf1 hf0 zb lb
    go_upto_region 5 with fail
    generalize w3.heap.size = t at *
    generalize w3.alloc (.cells #[.int .i32 0, .int .u32 0, .pointer (some ⟨p, 0, none⟩), .int .i64 0] 57) = w4 at *
    replace hta := hid hta
    replace hft := hid hft
    have z2 : w4.cell? ⟨t, 2, none⟩ = some (.pointer (some ⟨p, 0, none⟩)) := by rw [Lib.cell_of_heap hta.out]; rfl
    have lt4 := (Array.getElem?_eq_some_iff.1 hta.out).1
    go_wp2_with fail
    refine (hAl.out _ _ _ hTN.out).mono ?_
    rintro e w5 ⟨v, rfl, own5, hG5⟩
    rw [List.nil_append] at own5
    have hx5 : Ext w4 w5 := (Ext.refl w4).trans' hG5.1 (fun a _ => if_neg (by intro e; cases e))
    obtain ⟨Av, cv, rfl, -⟩ := own_form own5
    have ht5 := (hx5.block lt4).trans hta.out
    have lt5 := (Array.getElem?_eq_some_iff.1 ht5).1
    have hz := Lib.frozen_of_heap ht5 3
    have z3 : w5.cell? ⟨t, 3, none⟩ = some (.int .i64 0) := by rw [Lib.cell_of_heap ht5]; rfl
    have hf5 : f t = 0 := by have := hft.out t; rw [one_self] at this; omega
    have hfin : Hid (GiveLT xs w (.returned (.tuple #[.pointer (some ⟨t, 0, none⟩), .int .i64 0])) (w5.setCell ⟨t, 3, none⟩ (.int .i64 L.length))) :=
      ⟨_, _, rfl, (hx4.out.trans hx5).set (p := ⟨t, 3, none⟩) hwt.out _, h0.out.symm, fun _ => ⟨t, hh, p, T, f, rfl, by rw [hEX.out]; exact hmk.out _ t p f 0 (tree_set3 ht5 _) ((hTN.out.ext hx5).setc hf5) hft.out, hf00.out, hwt.out, hln.out⟩, fun h => absurd rfl h⟩
    clear own5 hG5 hx5 ht5 hf5 hTN hft hta hmk hAl z2
    go_wp2
    go_ret2
    exact hfin.out
  · rw [h0] at hck
    have hfin := hid (fun w' (hx : Ext w w') => lt_no (xs := xs) hx h0)
    clear hr h0
    generalize wrongX xs = W at *
    go_enter Tryz.func36, Tryz.ntmps36
    go_wp2_with fail
    refine (hck.out _ hx1.out).mono ?_
    rintro e w2 ⟨rfl, hx2⟩
    go_wp2
    go_ret2
    exact hfin.out _ (hx1.out.trans hx2)
open Go.RowKit Go.Shelf
theorem Same_at {w0 w : World} {t u h p : Nat} {L : List Te} {T : BT} {fU : Nat → Nat} (H : TA w0 w t L) (H2 : TreeAt 0 w u L h p T fU) : Calls Tryz.prog 37 #[.pointer (some ⟨t, 0, none⟩), .pointer (some ⟨u, 0, none⟩)] w (Give (.bool true) w) := by
  obtain ⟨h1, h2, h', p', T', fT, h3, h4⟩ := H
  exact Same_any t u L L h' p' h p T' T fT fU w h3 H2 true (by exact ⟨fun _ => rfl, fun _ => rfl⟩)
theorem chk_right {w : World} {t h p : Nat} {L : List Te} {T : BT} {fT : Nat → Nat} (H : TreeAt 0 w t L h p T fT) (hl : L.length ≤ 1000) : wrongX (lst h T 0) = 0 ∧ entX (lst h T 0) = L := by
  have h1 := (lst_le H.sh 0).1
  have h2 := lst_right H.sh H.l4 H.l1 (by rw [H.fl] at h1; omega) (by rw [H.fl]; exact H.ok) (by rw [H.fl]; exact H.sr)
  rw [H.fl] at h2
  exact h2
theorem sameTree_any (w0 w : World) (t : Nat) (L : List Te) (A : Option Addr) (c : Nat) (B : Option Addr) (d : Nat) (H : TA w0 w t L) (hl : L.length ≤ 1000) (hk : Rd w 1 A L.length c (strv (L.map Te.key))) (hr : RdI w B L.length d (L.map Te.no)) :
    Calls Tryz.prog 11 #[.pointer (some ⟨t, 0, none⟩), .slice A L.length c, .slice B L.length d] w (Give (.bool true) w) := by
  have mk := Rd.max hk
  have mr := RdI.max hr
  have hT := hid H
  have hRg := hid (Range_TA H ⟨#[]⟩ ⟨#[]⟩ (-1) L (range_all L).symm)
  have hsr := hid H.sr
  have hba := hid (build_all H.sr H.oks (by omega))
  obtain ⟨hh, hp, hT3, htail⟩ : ∃ h p T, ∃ fT, TreeAt 0 w t L h p T fT := by obtain ⟨h1, h2, h, p, T, fT, h3, h4⟩ := H; exact ⟨h, p, T, fT, h3⟩
  obtain ⟨fT, hTr⟩ := htail
  have hcr := hid (chk_right hTr hl)
  have hIx := hid (fun w' (hx : Ext w w') => Index_any t L hh hp hT3 fT w' (hTr.ext hx))
  have hln := hid (show (lst hh hT3 0).length = (lst hh hT3 0).length from rfl)
  generalize lst hh hT3 0 = xs at *
  have hBy := hid (fun w' A n c (hr : RX w' A n c xs) => Bytes_any A n c xs w' hr)
  have hRd := hid (fun w' A n c (hb : RdB w' A n c (bytesX xs)) => Read_any A n c (bytesX xs) w' hb)
  have hLd := hid (fun w' A n c (hr : RX w' A n c xs) => Load_any A n c xs w' hr)
  unfold GiveBy at hBy
  unfold GiveRx at hRd
  unfold GiveLT at hLd
  rw [show bysX xs = bytesX xs from if_pos hcr.out.1, show chkE xs = 0 from if_pos hcr.out.1] at hBy
  rw [(rd_back hcr.out.1).1, (rd_back hcr.out.1).2] at hRd
  rw [show chkE xs = 0 from if_pos hcr.out.1, hcr.out.2] at hLd
  have hBd := hid (fun w' (hx : Ext w w') => Build_any A L.length c B L.length d (L.map Te.key) (L.map Te.no) w' (hk.ext hx) (hr.ext hx) (by omega))
  rw [hba.out.1, hba.out.2] at hBd
  have hS1 := hid (fun w' (hx : Ext w w') A1 c1 (h1 : Rd w' 1 A1 L.length c1 (strv (L.map Te.key))) => sTexts_any A1 L.length c1 A c (L.map Te.key) w' h1 (hk.ext hx))
  have hS2 := hid (fun w' (hx : Ext w w') A1 c1 (h1 : RdI w' A1 L.length c1 (L.map Te.no)) => sInts_any A1 L.length c1 B d (L.map Te.no) w' h1 (hr.ext hx))
  have hLn := hid (fun w' (hx : Ext w w') => Len_TA (hT.out.ext hx))
  replace hk := hid hk
  replace hr := hid hr
  clear hba hcr hln H hTr
  go_enter Tryz.func11, Tryz.ntmps11
  go_wp2_with fail
  refine hRg.out.mono ?_
  rintro e w1 ⟨A1, c1, A2, c2, rfl, k1, r1, hx1, -, -⟩
  have hQ2 := hid (fun w' (hx : Ext w1 w') => hS2.out w' (hx1.trans hx) A2 c2 (r1.ext hx))
  have hQ3 := hid (fun w' (hx : Ext w1 w') => hLn.out w' (hx1.trans hx))
  have hQ1 := hid (hS1.out w1 hx1 A1 c1 k1)
  have m1 := Rd.max k1
  have m2 := RdI.max r1
  replace hx1 := hid hx1
  clear hRg k1 r1 hS1 hS2 hLn
  go_wp2_with fail
  refine hQ1.out.mono ?_
  rintro e w2 ⟨rfl, hx2⟩
  clear hQ1
  go_wp2_with fail
  refine (hQ2.out w2 hx2).mono ?_
  rintro e w3 ⟨rfl, hx3⟩
  clear hQ2
  go_wp2_with fail
  refine (hQ3.out w3 (hx2.trans hx3)).mono ?_
  rintro e w4 ⟨rfl, hx4⟩
  replace hx4 := hid (hx1.out.trans (hx2.trans (hx3.trans hx4)))
  clear hQ3 hx1 hx2 hx3 m1 m2
  go_wp2_with fail
  go_loopw [9] (fun i wr => ∃ (q : Nat), q ≤ L.length ∧ i = .int .i64 q ∧ Hid (Ext w wr)) (fun i _ => L.length - (intOf i).toNat)
  case atStart => exact ⟨0, Nat.zero_le _, rfl, hx4⟩
  case round =>
    obtain ⟨q, hq, rfl, hx⟩ := hrel
    by_cases hqt : q < L.length
    · have hat := hid (At_TA (hT.out.ext hx.out) (q : Int) (some (tth L q)) (by unfold Hid; rw [atT_nat, tth_get hqt, List.getElem?_eq_getElem hqt]))
      have hrk := hid (fun w' (hx' : Ext w w') => Rank_TA (hT.out.ext hx') (tth L q).key (tth L q).no)
      have e1 : rankT L ⟨(tth L q).key, (tth L q).no⟩ = q := rank_at hsr.out hqt
      rw [e1] at hrk
      obtain ⟨a1, rfl, d1⟩ := rds_at hk.out hqt
      obtain ⟨a2, rfl, d2⟩ := rdi_at hr.out hqt
      have e4 : sth (L.map Te.key) q = (tth L q).key := by rw [sth_get (by rw [List.length_map]; exact hqt), List.getElem_map, tth_get hqt]
      have e5 : ith (L.map Te.no) q = (tth L q).no := by rw [ith_get (by rw [List.length_map]; exact hqt), List.getElem_map, tth_get hqt]
      rw [e4] at d1
      rw [e5] at d2
      have hqi : (q : Int) < (L.length : Int) := by omega
      clear e1 e4 e5
      generalize tth L q = x at *
      have hcl := hid (fun w' (hx : Ext w w') => (⟨hx.cell d1, hx.cell d2⟩ : w'.cell? (a1.add q) = some (.string x.key) ∧ w'.cell? (a2.add q) = some (.int .i64 x.no)))
      clear d1 d2
      go_wp2_with fail
      refine hat.out.mono ?_
      rintro e w9 ⟨rfl, hx9⟩
      replace hx9 := hid (hx.out.trans hx9)
      clear hat hx
      simp only [TV]
      go_upto_region 8 with fail
      have hx10 := hid (hx9.out.drew_right)
      have I0 : (fun w' : World => w'.cell? (a1.add q) = some (.string x.key) ∧ w'.cell? (a2.add q) = some (.int .i64 x.no)) w9.drew := hcl.out _ hx10.out
      refine region_J (fun w' : World => w'.cell? (a1.add q) = some (.string x.key) ∧ w'.cell? (a2.add q) = some (.int .i64 x.no)) 32 (by kernel_rfl) ?_
      clear hx9
      generalize w9.drew = w10 at *
      refine JO 0 (v := ?vs0) I0 ?ys0 ?rs0
      case ys0 => (intro w h; obtain ⟨_, _⟩ := h; go_simp; with_reducible rfl)
      simp only [Act.put, lyA, lyB, lyC, lyD, lyE, lyF]
      refine JO 1 (v := ?vs1) I0 ?ys1 ?rs1
      case ys1 => (intro w h; obtain ⟨_, _⟩ := h; go_simp; with_reducible rfl)
      simp only [Act.put, lyA, lyB, lyC, lyD, lyE, lyF]
      refine JO 2 (v := ?vs2) I0 ?ys2 ?rs2
      case ys2 => (intro w h; obtain ⟨_, _⟩ := h; go_simp; with_reducible rfl)
      simp only [Act.put, lyA, lyB, lyC, lyD, lyE, lyF]
      refine JO 3 (v := ?vs3) I0 ?ys3 ?rs3
      case ys3 => (intro w h; obtain ⟨_, _⟩ := h; go_simp; with_reducible rfl)
      simp only [Act.put, lyA, lyB, lyC, lyD, lyE, lyF]
      refine JO 4 (v := ?vs4) I0 ?ys4 ?rs4
      case ys4 => (intro w h; obtain ⟨_, _⟩ := h; go_simp; with_reducible rfl)
      simp only [Act.put, lyA, lyB, lyC, lyD, lyE, lyF]
      refine JO 5 (v := ?vs5) I0 ?ys5 ?rs5
      case ys5 => (intro w h; obtain ⟨_, _⟩ := h; go_simp; with_reducible rfl)
      simp only [Act.put, lyA, lyB, lyC, lyD, lyE, lyF]
      refine JO 6 (v := ?vs6) I0 ?ys6 ?rs6
      case ys6 => (intro w h; obtain ⟨_, _⟩ := h; go_simp; with_reducible rfl)
      simp only [Act.put, lyA, lyB, lyC, lyD, lyE, lyF]
      refine JO 7 (v := ?vs7) I0 ?ys7 ?rs7
      case ys7 => (intro w h; obtain ⟨_, _⟩ := h; go_simp; with_reducible rfl)
      simp only [Act.put, lyA, lyB, lyC, lyD, lyE, lyF]
      refine JO 8 (v := ?vs8) I0 ?ys8 ?rs8
      case ys8 => (intro w h; obtain ⟨_, _⟩ := h; go_simp; with_reducible rfl)
      simp only [Act.put, lyA, lyB, lyC, lyD, lyE, lyF]
      refine JO 9 (v := ?vs9) I0 ?ys9 ?rs9
      case ys9 => (intro w h; obtain ⟨_, _⟩ := h; go_simp; with_reducible rfl)
      simp only [Act.put, lyA, lyB, lyC, lyD, lyE, lyF]
      refine JO 10 (v := ?vs10) I0 ?ys10 ?rs10
      case ys10 => (intro w h; obtain ⟨_, _⟩ := h; go_simp; with_reducible rfl)
      simp only [Act.put, lyA, lyB, lyC, lyD, lyE, lyF]
      refine JO 11 (v := ?vs11) I0 ?ys11 ?rs11
      case ys11 => (intro w h; obtain ⟨_, _⟩ := h; go_simp; with_reducible rfl)
      simp only [Act.put, lyA, lyB, lyC, lyD, lyE, lyF]
      refine JO 12 (v := ?vs12) I0 ?ys12 ?rs12
      case ys12 => (intro w h; obtain ⟨_, _⟩ := h; go_simp; with_reducible rfl)
      simp only [Act.put, lyA, lyB, lyC, lyD, lyE, lyF]
      refine JO 13 (v := ?vs13) I0 ?ys13 ?rs13
      case ys13 => (intro w h; obtain ⟨_, _⟩ := h; go_simp; with_reducible rfl)
      simp only [Act.put, lyA, lyB, lyC, lyD, lyE, lyF]
      refine JO 14 (v := ?vs14) I0 ?ys14 ?rs14
      case ys14 => (intro w h; obtain ⟨_, _⟩ := h; go_simp; with_reducible rfl)
      simp only [Act.put, lyA, lyB, lyC, lyD, lyE, lyF]
      refine JO 15 (v := ?vs15) I0 ?ys15 ?rs15
      case ys15 => (intro w h; obtain ⟨_, _⟩ := h; go_simp; with_reducible rfl)
      simp only [Act.put, lyA, lyB, lyC, lyD, lyE, lyF]
      refine JO 16 (v := ?vs16) I0 ?ys16 ?rs16
      case ys16 => (intro w h; obtain ⟨_, _⟩ := h; go_simp; with_reducible rfl)
      simp only [Act.put, lyA, lyB, lyC, lyD, lyE, lyF]
      refine JO 17 (v := ?vs17) I0 ?ys17 ?rs17
      case ys17 => (intro w h; obtain ⟨_, _⟩ := h; go_simp; with_reducible rfl)
      simp only [Act.put, lyA, lyB, lyC, lyD, lyE, lyF]
      refine JO 18 (v := ?vs18) I0 ?ys18 ?rs18
      case ys18 => (intro w h; obtain ⟨_, _⟩ := h; go_simp; with_reducible rfl)
      simp only [Act.put, lyA, lyB, lyC, lyD, lyE, lyF]
      refine JO 19 (v := ?vs19) I0 ?ys19 ?rs19
      case ys19 => (intro w h; obtain ⟨_, _⟩ := h; go_simp; with_reducible rfl)
      simp only [Act.put, lyA, lyB, lyC, lyD, lyE, lyF]
      refine JO 20 (v := ?vs20) I0 ?ys20 ?rs20
      case ys20 => (intro w h; obtain ⟨_, _⟩ := h; go_simp; with_reducible rfl)
      simp only [Act.put, lyA, lyB, lyC, lyD, lyE, lyF]
      refine JO 21 (v := ?vs21) I0 ?ys21 ?rs21
      case ys21 => (intro w h; obtain ⟨_, _⟩ := h; go_simp; with_reducible rfl)
      simp only [Act.put, lyA, lyB, lyC, lyD, lyE, lyF]
      refine JO 22 (v := ?vs22) I0 ?ys22 ?rs22
      case ys22 => (intro w h; obtain ⟨_, _⟩ := h; go_simp; with_reducible rfl)
      simp only [Act.put, lyA, lyB, lyC, lyD, lyE, lyF]
      refine JO 23 (v := ?vs23) I0 ?ys23 ?rs23
      case ys23 => (intro w h; obtain ⟨_, _⟩ := h; go_simp; with_reducible rfl)
      simp only [Act.put, lyA, lyB, lyC, lyD, lyE, lyF]
      refine JO 24 (v := ?vs24) I0 ?ys24 ?rs24
      case ys24 => (intro w h; obtain ⟨_, _⟩ := h; go_simp; with_reducible rfl)
      simp only [Act.put, lyA, lyB, lyC, lyD, lyE, lyF]
      refine JO 25 (v := ?vs25) I0 ?ys25 ?rs25
      case ys25 => (intro w h; obtain ⟨_, _⟩ := h; go_simp; with_reducible rfl)
      simp only [Act.put, lyA, lyB, lyC, lyD, lyE, lyF]
      refine JO 26 (v := ?vs26) I0 ?ys26 ?rs26
      case ys26 => (intro w h; obtain ⟨_, _⟩ := h; go_simp; with_reducible rfl)
      simp only [Act.put, lyA, lyB, lyC, lyD, lyE, lyF]
      refine JO 27 (v := ?vs27) I0 ?ys27 ?rs27
      case ys27 => (intro w h; obtain ⟨_, _⟩ := h; go_simp; with_reducible rfl)
      simp only [Act.put, lyA, lyB, lyC, lyD, lyE, lyF]
      refine JO 29 (v := ?vs29) I0 ?ys29 ?rs29
      case ys29 => (intro w h; obtain ⟨_, _⟩ := h; go_simp; with_reducible rfl)
      simp only [Act.put, lyA, lyB, lyC, lyD, lyE, lyF]
      refine J_one 28 rfl (by kernel_rfl) (fun K hK => ?_)
      go_simp
      refine (hrk.out w10 hx10.out).mono ?_
      rintro e w11 ⟨rfl, hx11⟩
      replace hx11 := hid (hx10.out.trans hx11)
      have I1 : (fun w' : World => w'.cell? (a1.add q) = some (.string x.key) ∧ w'.cell? (a2.add q) = some (.int .i64 x.no)) w11 := hcl.out _ hx11.out
      clear hrk
      refine hK _ _ ⟨fun _ => I1, ?_⟩
      clear hK K
      try simp only [Act.put, lyA, lyB, lyC, lyD, lyE, lyF]
      refine JO 30 (v := ?vr30) I1 ?yr30 ?rr30
      case yr30 => (intro w h; obtain ⟨_, _⟩ := h; go_simp; with_reducible rfl)
      simp only [Act.put, lyA, lyB, lyC, lyD, lyE, lyF]
      refine JO 31 (v := ?vr31) I1 ?yr31 ?rr31
      case yr31 => (intro w h; obtain ⟨_, _⟩ := h; go_simp; with_reducible rfl)
      simp only [Act.put, lyA, lyB, lyC, lyD, lyE, lyF]
      refine J_done (by kernel_rfl) (OnlyOn.normal ?_)
      go_wp2_with fail
      go_roundw
      case rel => exact ⟨q + 1, by omega, by go_num, hx11⟩
      case measure => simp [intOf]; omega
    · obtain rfl : q = L.length := by omega
      go_wp2_with fail
      refine (hBd.out wr hx.out).mono ?_
      rintro e w5 ⟨u, E', rfl, hx5, hyes, -, hE'⟩
      obtain rfl := hE'
      obtain ⟨u, rfl, hU⟩ := hyes rfl
      replace hU := hid hU
      replace hx5 := hid (hx.out.trans hx5)
      clear hBd hyes hx
      go_wp2_with fail
      refine (hIx.out w5 hx5.out).mono ?_
      rintro e w6 ⟨v, rfl, hI, hx6⟩
      replace hU := hid (hU.out.ext hx6)
      replace hx5 := hid (hx5.out.trans hx6)
      obtain ⟨A6, c6, rfl, hR6⟩ := hI.reads
      clear hIx hI hx6
      have m6 := RX.max hR6
      have hxa := (Ext.refl w6).alloc_right (.cells #[.slice A6 xs.length c6] 82)
      have hnb := heap_alloc_new w6 (.cells #[.slice A6 xs.length c6] 82)
      have y1 := hid (show (w6.alloc (.cells #[.slice A6 xs.length c6] 82)).cell? ⟨w6.heap.size, 0, none⟩ = some (.slice A6 xs.length c6) by rw [Lib.cell_of_heap hnb]; rfl)
      have k1 := hid (Array.getElem?_eq_some_iff.1 hnb).1
      replace hx5 := hid (hx5.out.trans hxa)
      replace hU := hid (hU.out.ext hxa)
      have hB6 := hid (hBy.out _ A6 xs.length c6 (hR6.ext hxa))
      clear hR6 hxa hnb hBy
      go_upto_region 12 with fail
      generalize w6.alloc (.cells #[.slice A6 xs.length c6] 82) = w7 at *
      generalize w6.heap.size = p7 at *
      replace y1 := y1.out
      replace k1 := k1.out
      go_wp2_with fail
      refine hB6.out.mono ?_
      rintro e w8 ⟨A8, n8, c8, rfl, hb8, hx8⟩
      replace hx5 := hid (hx5.out.trans hx8)
      replace hU := hid (hU.out.ext hx8)
      clear y1 k1 hB6 hx8
      have hR8 := hid (hRd.out _ A8 n8 c8 hb8)
      clear hb8 hRd
      go_wp2_with fail
      refine hR8.out.mono ?_
      rintro e wa ⟨Aa, ca, rfl, hRa, hxa⟩
      clear hR8
      have hxs := hxa.alloc_right (.cells #[.slice Aa xs.length ca] 82)
      have hxt := (Ext.refl wa).alloc_right (.cells #[.slice Aa xs.length ca] 82)
      have hnb := heap_alloc_new wa (.cells #[.slice Aa xs.length ca] 82)
      have y1 := hid (show (wa.alloc (.cells #[.slice Aa xs.length ca] 82)).cell? ⟨wa.heap.size, 0, none⟩ = some (.slice Aa xs.length ca) by rw [Lib.cell_of_heap hnb]; rfl)
      have k1 := hid (Array.getElem?_eq_some_iff.1 hnb).1
      replace hx5 := hid (hx5.out.trans hxs)
      replace hU := hid (hU.out.ext hxs)
      have hLa := hid (hLd.out _ Aa xs.length ca (hRa.ext hxt))
      clear hRa hxa hxs hxt hnb hLd
      go_upto_region 14 with fail
      generalize wa.alloc (.cells #[.slice Aa xs.length ca] 82) = wb at *
      generalize wa.heap.size = pb at *
      replace y1 := y1.out
      replace k1 := k1.out
      go_wp2_with fail
      refine hLa.out.mono ?_
      rintro e wc ⟨vc, Ec, rfl, hxc, hEc, hyes, -⟩
      obtain rfl := hEc
      obtain ⟨tc, hc, pc, Tc, fTc, rfl, hTc, -, -, -⟩ := hyes rfl
      clear y1 k1 hLa hyes
      replace hx5 := hid (hx5.out.trans hxc)
      replace hU := hid (hU.out.ext hxc)
      have hSa := hid (Same_TA (hT.out.ext hx5.out) hU.out true (by exact ⟨fun _ => rfl, fun _ => rfl⟩))
      have hSb := hid (fun w' (hx' : Ext wc w') => Same_at (hT.out.ext (hx5.out.trans hx')) (hTc.ext hx'))
      clear hTc hxc hU hT
      go_wp2_with fail
      refine hSa.out.mono ?_
      rintro e wd ⟨rfl, hxd⟩
      clear hSa
      go_wp2_with fail
      refine (hSb.out wd hxd).mono ?_
      rintro e we ⟨rfl, hxe⟩
      replace hx5 := hid (hx5.out.trans (hxd.trans hxe))
      go_wp2
      go_ret
      exact ⟨rfl, hx5.out⟩
end Go.Proofs.YtjjikkhhlpikbaaGreatDoor
namespace Go.Proofs.YtjjikkhhlpikbaaGreatDoor.Ky
open Go.RowKit
open Go.ChangeShapes Go.WideShapes Go.ChangeAt Go.RowKit Go.Deep
abbrev VL := Int × Int × ByteArray
def v3C (v : VL) : List Value := [.int .i64 v.1, .int .i64 v.2.1, .string v.2.2]
def valsC (l : List VL) : List Value := l.flatMap v3C
theorem valsC_len (l : List VL) : (valsC l).length = l.length * 3 := by
  induction l with
  | nil => rfl
  | cons v l ih => show (v3C v ++ valsC l).length = _; rw [List.length_append, ih]; simp [v3C]; omega
theorem valsC_snoc (l : List VL) (v : VL) : valsC (l ++ [v]) = valsC l ++ v3C v := by unfold valsC; simp
def vth (l : List VL) (k : Nat) : VL := l.getD k (0, 0, ByteArray.empty)
theorem valsC_at : ∀ (l : List VL) (k : Nat), k < l.length → (valsC l)[k * 3]? = some (.int .i64 (vth l k).1) ∧ (valsC l)[k * 3 + 1]? = some (.int .i64 (vth l k).2.1) ∧ (valsC l)[k * 3 + 2]? = some (.string (vth l k).2.2)
  | [], k, h => by simp at h
  | v :: l, 0, _ => ⟨rfl, rfl, rfl⟩
  | v :: l, k + 1, h => by
    have ih := valsC_at l k (by simpa using h)
    have e : valsC (v :: l) = v3C v ++ valsC l := rfl
    have hl : (v3C v).length = 3 := rfl
    rw [e]
    refine ⟨?_, ?_, ?_⟩
    · rw [List.getElem?_append_right (by rw [hl]; omega), hl, show (k + 1) * 3 - 3 = k * 3 by omega]; exact ih.1
    · rw [List.getElem?_append_right (by rw [hl]; omega), hl, show (k + 1) * 3 + 1 - 3 = k * 3 + 1 by omega]; exact ih.2.1
    · rw [List.getElem?_append_right (by rw [hl]; omega), hl, show (k + 1) * 3 + 2 - 3 = k * 3 + 2 by omega]; exact ih.2.2
def RdV (w : World) (A : Option Addr) (n c : Nat) (l : List VL) : Prop := Rd w 3 A n c (valsC l)
theorem RdV.len {w : World} {A : Option Addr} {n c : Nat} {l : List VL} (h : RdV w A n c l) : l.length = n := by have := h.1; rw [valsC_len] at this; omega
theorem RdV.ext {w w' : World} {A : Option Addr} {n c : Nat} {l : List VL} (h : RdV w A n c l) (hb : Ext w w') : RdV w' A n c l := Rd.ext h hb
theorem cell_f {w : World} {p : Addr} {i j : Nat} {v : Value} (h : w.cell? (p.add (i + j)) = some v) (hj : j ≠ 0) : w.cell? ⟨(p.add i).block, (p.add i).off + j, none⟩ = some v := by
  rw [← add_add] at h
  generalize p.add i = q at *
  unfold Addr.add at h
  rw [if_neg hj] at h
  exact h
theorem RdV.at_ {w : World} {A : Option Addr} {n c : Nat} {l : List VL} (h : RdV w A n c l) {k : Nat} (hk : k < n) : ∃ ad, A = some ad ∧ w.cell? (ad.add (k * 3)) = some (.int .i64 (vth l k).1) ∧ w.cell? ⟨(ad.add (k * 3)).block, (ad.add (k * 3)).off + 1, none⟩ = some (.int .i64 (vth l k).2.1) ∧ w.cell? ⟨(ad.add (k * 3)).block, (ad.add (k * 3)).off + 2, none⟩ = some (.string (vth l k).2.2) := by
  obtain ⟨ad, hA, hc⟩ := h.2.2.2 (by omega)
  obtain ⟨a, b, d⟩ := valsC_at l k (by rw [h.len]; exact hk)
  exact ⟨ad, hA, hc _ _ a, cell_f (hc _ _ b) (by decide), cell_f (hc _ _ d) (by decide)⟩
theorem RdV.nil (w : World) : RdV w none 0 0 [] := Rd.none_ w 3
def bolsC (l : List Bool) : List Value := l.map Value.bool
def both_ (l : List Bool) (k : Nat) : Bool := l.getD k false
def RdO (w : World) (A : Option Addr) (n c : Nat) (l : List Bool) : Prop := Rd w 1 A n c (bolsC l)
theorem RdO.len {w : World} {A : Option Addr} {n c : Nat} {l : List Bool} (h : RdO w A n c l) : l.length = n := by have := h.1; simpa [bolsC] using this
theorem RdO.ext {w w' : World} {A : Option Addr} {n c : Nat} {l : List Bool} (h : RdO w A n c l) (hb : Ext w w') : RdO w' A n c l := Rd.ext h hb
theorem RdO.at_ {w : World} {A : Option Addr} {n c : Nat} {l : List Bool} (h : RdO w A n c l) {k : Nat} (hk : k < n) : ∃ ad, A = some ad ∧ w.cell? (ad.add k) = some (.bool (both_ l k)) := by
  obtain ⟨ad, hA, hc⟩ := h.2.2.2 (by omega)
  have hl := h.len
  exact ⟨ad, hA, hc k _ (by simp [bolsC, both_, List.getD, hl, hk])⟩
section
variable {H : Type} {enc : TypeId × Value → H} {P : Program} {w : World} {base : Nat} {spare : Nat → Bool} {held : Bool}
theorem all_mem {e : TypeId} : ∀ {l : List (DataW H)} {d : DataW H} {n : Nat}, d ∈ l → n ∈ d.weights P e → n ∈ DataW.weightsAll P e l
  | d' :: l, d, n, hd, hn => by
    rw [DataW.weightsAll, List.mem_append]
    rcases List.mem_cons.1 hd with rfl | h
    · exact .inl hn
    · exact .inr (all_mem h hn)
theorem slice_own {t e : TypeId} (ht : P.underlying t = some (.slice e)) (l s : List (DataW H)) : (l.length + s.length) * P.bytesOf e ∈ (DataW.slice l s).weights P t := by
  rw [DataW.weights, ht]
  exact List.mem_cons_self
theorem slice_mem {t e : TypeId} (ht : P.underlying t = some (.slice e)) {l s : List (DataW H)} {d : DataW H} {n : Nat} (hd : d ∈ l) (hn : n ∈ d.weights P e) : n ∈ (DataW.slice l s).weights P t := by
  rw [DataW.weights, ht]
  exact List.mem_cons_of_mem _ (List.mem_append_left _ (all_mem hd hn))
theorem each_mem {t : TypeId} {fs : Array Field} (ht : P.underlying t = some (.struct fs)) {l : List (DataW H)} {j : Nat} {f : Field} {d : DataW H} {n : Nat} (hf : fs[j]? = some f) (hd : l[j]? = some d) (hn : n ∈ d.weights P f.type) : n ∈ (DataW.agg l).weights P t := by
  rw [DataW.weights, ht]
  exact DataW.weights_mem_each (by rw [List.getElem?_map, Array.getElem?_toList, hf]; rfl) hd n hn
theorem slice_fields {t e : TypeId} {fs : Array Field} {fuel : Nat} {cs : List Value} {x : DataW H × List MemPlace} (ht : P.underlying t = some (.slice e)) (he : P.underlying e = some (.struct fs))
    (hone : oneCellFields P fs = true) (hC : P.cellsOf e = fs.size) (h : DataW.trod enc P w base spare held fuel t cs = some x) :
    (cs = [.slice none 0 0]) ∨
    ∃ (a : Addr) (len cap : Nat) (D : Nat → DataW H) (sp : List (DataW H)), cs = [.slice (some a) len cap] ∧ len ≤ cap ∧ cap ≤ maxLen ∧ x.1 = .slice ((List.range len).map D) sp ∧
      ∀ i, i < len → ∃ (ys : List (DataW H × List MemPlace)) (n : Nat), D i = .agg (ys.map (·.1)) ∧
        ∀ (j : Nat) (f : Field), fs[j]? = some f → ∃ (v : Value) (y : DataW H × List MemPlace), w.cell? (a.add (i * fs.size + j)) = some v ∧ ys[j]? = some y ∧ DataW.trod enc P w base spare held n f.type [v] = some y := by
  rcases open_slice ht h with ⟨h0, _⟩ | ⟨a, len, cap, m, n, D, Pl, hcs, hb, hl, hm, hmm, hx, hi⟩
  · exact .inl h0
  · have hlm : len ≤ m := by rw [hmm]; split <;> omega
    refine .inr ⟨a, len, cap, D, _, hcs, hl, hm, congrArg Prod.fst hx, fun i him => ?_⟩
    obtain ⟨cs', hc, ht'⟩ := hi i (by omega)
    rw [hC] at hc
    obtain ⟨ys, n', hn', hy, hlen, hyl, hf⟩ := DataW.trod_struct he ht'
    obtain ⟨_, hcl, hat⟩ := World.cells?_some hc
    simp only [Prod.mk.injEq] at hy
    refine ⟨ys, n', hy.1, fun j f hj => ?_⟩
    obtain ⟨ho, hk⟩ := hone_of hone j f hj
    have hjl : j < fs.size := (Array.getElem?_eq_some_iff.1 hj).1
    have hcell := hat j hjl
    have hv : cs'[j]? = some (cs'[j]'(by omega)) := List.getElem?_eq_getElem (by omega)
    have h1 := hf j f hj
    rw [ho, hk] at h1
    have hone' : (cs'.drop j).take 1 = [cs'[j]'(by omega)] := by
      rw [List.drop_eq_getElem_cons (by omega)]
      rfl
    rw [hone'] at h1
    have hys : ys[j]? = some (ys[j]'(by omega)) := List.getElem?_eq_getElem (by omega)
    refine ⟨_, _, ?_, hys, h1.trans hys⟩
    rw [← Go.Deep.add_add, hcell, hv]
theorem slice_ones {t e : TypeId} {fuel : Nat} {cs : List Value} {x : DataW H × List MemPlace} (ht : P.underlying t = some (.slice e)) (hC : P.cellsOf e = 1) (h : DataW.trod enc P w base spare held fuel t cs = some x) :
    (cs = [.slice none 0 0]) ∨
    ∃ (a : Addr) (len cap n : Nat) (D : Nat → DataW H) (sp : List (DataW H)), cs = [.slice (some a) len cap] ∧ len ≤ cap ∧ cap ≤ maxLen ∧ x.1 = .slice ((List.range len).map D) sp ∧
      ∀ i, i < len → ∃ (v : Value) (y : List MemPlace), w.cell? (a.add i) = some v ∧ DataW.trod enc P w base spare held n e [v] = some (D i, y) := by
  rcases open_slice ht h with ⟨h0, _⟩ | ⟨a, len, cap, m, n, D, Pl, hcs, hb, hl, hm, hmm, hx, hi⟩
  · exact .inl h0
  · have hlm : len ≤ m := by rw [hmm]; split <;> omega
    refine .inr ⟨a, len, cap, n, D, _, hcs, hl, hm, congrArg Prod.fst hx, fun i him => ?_⟩
    obtain ⟨cs', hc, ht'⟩ := hi i (by omega)
    rw [hC] at hc
    obtain ⟨_, hcl, hat⟩ := World.cells?_some hc
    match cs', hcl with
    | [v], _ =>
      refine ⟨v, Pl i, ?_, ht'⟩
      have := hat 0 (by omega)
      rw [Nat.mul_one, Go.Deep.add_add, Nat.add_zero] at this
      exact this
end
theorem choose_list {α : Type} {n : Nat} {Q : Nat → α → Prop} (h : ∀ i, i < n → ∃ a, Q i a) : ∃ l : List α, l.length = n ∧ ∀ i a, l[i]? = some a → Q i a := by
  induction n with
  | zero => exact ⟨[], rfl, fun i a e => by simp at e⟩
  | succ n ih =>
    obtain ⟨l, hl, hq⟩ := ih fun i hi => h i (by omega)
    obtain ⟨a, ha⟩ := h n (by omega)
    refine ⟨l ++ [a], by simp [hl], fun i b e => ?_⟩
    by_cases hi : i < n
    · rw [List.getElem?_append_left (by omega)] at e
      exact hq i b e
    · by_cases hn : i = n
      · subst hn
        rw [List.getElem?_append_right (by omega), hl, Nat.sub_self] at e
        obtain rfl : a = b := by simpa using e
        exact ha
      · rw [List.getElem?_eq_none (by simp; omega)] at e
        cases e
theorem v3_of {l : List VL} {j : Nat} {u : Value} (h : (valsC l)[j]? = some u) : j < l.length * 3 := by
  have := (List.getElem?_eq_some_iff.1 h).1
  rwa [valsC_len] at this
section
variable {H : Type} {enc : TypeId × Value → H} {w : World} {base : Nat} {spare : Nat → Bool} {held : Bool} {fuel : Nat} {cs : List Value} {x : DataW H × List MemPlace}
theorem bools_read (h : DataW.trod enc Tryz.prog w base spare held fuel 163 cs = some x) : ∃ A n c l, cs = [.slice A n c] ∧ RdO w A n c l ∧ ∀ B, (∀ m ∈ x.1.weights Tryz.prog 163, m ≤ B) → n ≤ B := by
  rcases slice_ones Tryz.underlying163 (by kernel_rfl) h with rfl | ⟨a, len, cap, n, D, sp, rfl, hl, hm, hx, hi⟩
  · exact ⟨none, 0, 0, [], rfl, Rd.none_ w 1, fun B _ => Nat.zero_le _⟩
  · obtain ⟨l, hll, hq⟩ := choose_list (n := len) (Q := fun i b => w.cell? (a.add i) = some (.bool b)) (fun i hi' => by
      obtain ⟨v, y, hc, ht⟩ := hi i hi'
      obtain ⟨b, e, _⟩ := DataW.trod_bool Tryz.underlying4 ht
      simp only [List.cons.injEq, and_true] at e
      subst e
      exact ⟨b, hc⟩)
    refine ⟨some a, len, cap, l, rfl, ⟨by simp [bolsC, hll], hl, hm, fun _ => ⟨a, rfl, fun j u hu => ?_⟩⟩, fun B hB => ?_⟩
    · unfold bolsC at hu
      rw [List.getElem?_map] at hu
      cases hb : l[j]? with
      | none => rw [hb] at hu; cases hu
      | some b => rw [hb] at hu; obtain rfl := Option.some.inj hu; exact hq j b hb
    · have := hB _ (by rw [hx]; exact slice_own Tryz.underlying163 _ _)
      rw [show Tryz.prog.bytesOf 4 = 1 by kernel_rfl] at this
      simp at this
      omega
theorem vals_read (h : DataW.trod enc Tryz.prog w base spare held fuel 22 cs = some x) : ∃ (A : Option Addr) (n c : Nat) (l : List VL), cs = [.slice A n c] ∧ RdV w A n c l ∧ ∀ B, (∀ m ∈ x.1.weights Tryz.prog 22, m ≤ B) → n * 32 ≤ B ∧ ∀ (j : Nat) (v : VL), l[j]? = some v → v.2.2.size ≤ B := by
  rcases slice_fields Tryz.underlying22 Tryz.underlying25 (by kernel_rfl) (by kernel_rfl) h with rfl | ⟨a, len, cap, D, sp, rfl, hl, hm, hx, hi⟩
  · exact ⟨none, 0, 0, [], rfl, RdV.nil w, fun B _ => ⟨by omega, fun j v e => by simp at e⟩⟩
  · obtain ⟨l, hll, hq⟩ := choose_list (n := len) (Q := fun i (v : VL) => w.cell? (a.add (i * 3)) = some (.int .i64 v.1) ∧ w.cell? (a.add (i * 3 + 1)) = some (.int .i64 v.2.1) ∧ w.cell? (a.add (i * 3 + 2)) = some (.string v.2.2) ∧ v.2.2.size ∈ (D i).weights Tryz.prog 25) (fun i hi' => by
      obtain ⟨ys, n, hd, hf⟩ := hi i hi'
      obtain ⟨v0, y0, c0, g0, t0⟩ := hf 0 _ rfl
      obtain ⟨v1, y1, c1, g1, t1⟩ := hf 1 _ rfl
      obtain ⟨v2, y2, c2, g2, t2⟩ := hf 2 _ rfl
      obtain ⟨n0, e0, _, _⟩ := DataW.trod_int Tryz.underlying3 t0
      obtain ⟨n1, e1, _, _⟩ := DataW.trod_int Tryz.underlying3 t1
      obtain ⟨n2, e2, x2, _⟩ := DataW.trod_string Tryz.underlying9 t2
      simp only [List.cons.injEq, and_true] at e0 e1 e2
      subst e0 e1 e2
      refine ⟨(n0, n1, n2), c0, c1, c2, ?_⟩
      rw [hd]
      refine each_mem Tryz.underlying25 (j := 2) rfl (d := y2.1) (by rw [List.getElem?_map, g2]; rfl) ?_
      rw [x2]
      simp [DataW.weights])
    refine ⟨some a, len, cap, l, rfl, ⟨by rw [valsC_len, hll], hl, hm, fun _ => ⟨a, rfl, fun j u hu => ?_⟩⟩, fun B hB => ⟨?_, fun j v hv => ?_⟩⟩
    · have hj := v3_of hu
      obtain ⟨k, r, hr, rfl⟩ : ∃ k r, r < 3 ∧ j = k * 3 + r := ⟨j / 3, j % 3, by omega, by omega⟩
      have hk : k < l.length := by omega
      obtain ⟨a0, a1, a2⟩ := valsC_at l k hk
      have hv : l[k]? = some (vth l k) := by simp [vth, List.getD, hk]
      obtain ⟨q0, q1, q2, _⟩ := hq k _ hv
      rcases (by omega : r = 0 ∨ r = 1 ∨ r = 2) with rfl | rfl | rfl
      · rw [Nat.add_zero] at hu ⊢; rw [a0] at hu; rw [q0, hu]
      · rw [a1] at hu; rw [q1, hu]
      · rw [a2] at hu; rw [q2, hu]
    · have := hB _ (by rw [hx]; exact slice_own Tryz.underlying22 _ _)
      rw [show Tryz.prog.bytesOf 25 = 32 by kernel_rfl] at this
      simp at this
      omega
    · have hj : j < len := by have := (List.getElem?_eq_some_iff.1 hv).1; omega
      refine hB _ ?_
      rw [hx]
      exact slice_mem Tryz.underlying22 (List.mem_map.2 ⟨j, List.mem_range.2 hj, rfl⟩) (hq j v hv).2.2.2
theorem strs_read (h : DataW.trod enc Tryz.prog w base spare held fuel 38 cs = some x) : ∃ (A : Option Addr) (n c : Nat) (l : List ByteArray), cs = [.slice A n c] ∧ Pg.RdS w A n c l ∧ ∀ B, (∀ m ∈ x.1.weights Tryz.prog 38, m ≤ B) → n * 16 ≤ B ∧ ∀ (j : Nat) (v : ByteArray), l[j]? = some v → v.size ≤ B := by
  rcases slice_ones Tryz.underlying38 (by kernel_rfl) h with rfl | ⟨a, len, cap, n, D, sp, rfl, hl, hm, hx, hi⟩
  · exact ⟨none, 0, 0, [], rfl, Rd.none_ w 1, fun B _ => ⟨by omega, fun j v e => by simp at e⟩⟩
  · obtain ⟨l, hll, hq⟩ := choose_list (n := len) (Q := fun i (s : ByteArray) => w.cell? (a.add i) = some (.string s) ∧ s.size ∈ (D i).weights Tryz.prog 9) (fun i hi' => by
      obtain ⟨v, y, hc, ht⟩ := hi i hi'
      obtain ⟨s, e, xe, _⟩ := DataW.trod_string Tryz.underlying9 ht
      simp only [List.cons.injEq, and_true] at e
      subst e
      refine ⟨s, hc, ?_⟩
      rw [show D i = _ from congrArg Prod.fst xe]
      simp [DataW.weights])
    refine ⟨some a, len, cap, l, rfl, ⟨by simp [Pg.strs, hll], hl, hm, fun _ => ⟨a, rfl, fun j u hu => ?_⟩⟩, fun B hB => ⟨?_, fun j v hv => ?_⟩⟩
    · unfold Pg.strs at hu
      rw [List.getElem?_map] at hu
      cases hb : l[j]? with
      | none => rw [hb] at hu; cases hu
      | some b => rw [hb] at hu; obtain rfl := Option.some.inj hu; exact (hq j b hb).1
    · have := hB _ (by rw [hx]; exact slice_own Tryz.underlying38 _ _)
      rw [show Tryz.prog.bytesOf 9 = 16 by kernel_rfl] at this
      simp at this
      omega
    · have hj : j < len := by have := (List.getElem?_eq_some_iff.1 hv).1; omega
      refine hB _ ?_
      rw [hx]
      exact slice_mem Tryz.underlying38 (List.mem_map.2 ⟨j, List.mem_range.2 hj, rfl⟩) (hq j v hv).2
theorem bytes_read (h : DataW.trod enc Tryz.prog w base spare held fuel 84 cs = some x) : ∃ A n c l, cs = [.slice A n c] ∧ Pg.RdB w A n c l ∧ ∀ B, (∀ m ∈ x.1.weights Tryz.prog 84, m ≤ B) → n ≤ B := by
  rcases slice_ones Tryz.underlying84 (by kernel_rfl) h with rfl | ⟨a, len, cap, n, D, sp, rfl, hl, hm, hx, hi⟩
  · exact ⟨none, 0, 0, [], rfl, Rd.none_ w 1, fun B _ => Nat.zero_le _⟩
  · obtain ⟨l, hll, hq⟩ := choose_list (n := len) (Q := fun i (b : UInt8) => w.cell? (a.add i) = some (Pg.byt b)) (fun i hi' => by
      obtain ⟨v, y, hc, ht⟩ := hi i hi'
      obtain ⟨b, e, _, hw⟩ := DataW.trod_int Tryz.underlying5 ht
      simp only [List.cons.injEq, and_true] at e
      subst e
      have h0 : 0 ≤ b ∧ b ≤ 255 := bounds_u8 hw
      exact ⟨Pg.bOf b, by rw [hc, Pg.byt_of b h0.1 h0.2]⟩)
    refine ⟨some a, len, cap, l, rfl, ⟨by simp [Pg.bytesC, hll], hl, hm, fun _ => ⟨a, rfl, fun j u hu => ?_⟩⟩, fun B hB => ?_⟩
    · unfold Pg.bytesC at hu
      rw [List.getElem?_map] at hu
      cases hb : l[j]? with
      | none => rw [hb] at hu; cases hu
      | some b => rw [hb] at hu; obtain rfl := Option.some.inj hu; exact hq j b hb
    · have := hB _ (by rw [hx]; exact slice_own Tryz.underlying84 _ _)
      rw [show Tryz.prog.bytesOf 5 = 1 by kernel_rfl] at this
      simp at this
      omega
end
end Go.Proofs.YtjjikkhhlpikbaaGreatDoor.Ky
namespace Go.Proofs.YtjjikkhhlpikbaaGreatDoor
open Go.RowKit Go.Shelf
section
variable {P : Program} {ops : Array Oper} {Q : Exit → Act → World → Prop} {md : Region.Mode} {S T : World → Prop} {last : Nat}
def wpAnyK (P : Program) (md : Region.Mode) (ops : Array Oper) (Q : Exit → Act → World → Prop) (S : World → Prop) (last : Nat) : Nat → Array Bool → Act → World → Prop
  | 0, listed, a, w => Region.ready md ops listed = [] ∧ Q .normal a w
  | fuel + 1, listed, a, w =>
    (Region.ready md ops listed = [] → Q .normal a w) ∧
    ∀ i ∈ Region.ready md ops listed, wpOp P ops Q i (fun a' w' => (i ≠ last → listed.getD last true = false → S w') ∧ wpAnyK P md ops Q S last fuel (listed.setIfInBounds i true) a' w') a w
theorem wpAny_of_K : ∀ (fuel : Nat) (listed : Array Bool) (a : Act) (w : World), wpAnyK P md ops Q S last fuel listed a w → wpAny P md ops Q fuel listed a w
  | 0, _, _, _, h => h
  | fuel + 1, _, _, _, h => ⟨h.1, fun i hi => wpOp_mono (fun a' w' h' => wpAny_of_K fuel _ a' w' h'.2) (h.2 i hi)⟩
theorem wpAnyK_first {i : Nat} {oi : Oper} {v : Value} (hi : ops[i]? = some oi) (hsel : ∀ (j : Nat) (o : Oper) cs b, ops[j]? = some o → o.op ≠ .select cs b)
    (hQ : ∀ c a w, Q (.panic c) (a.put oi.dst v) w → Q (.panic c) a w) (hil : i ≠ last) :
    ∀ (fuel : Nat) (listed : Array Bool) (a : Act) (w : World),
      (∀ j oj, ops[j]? = some oj → j ≠ i → listed.getD j true = false → (∀ e ∈ oj.after, Region.binds md e = true → e.on ≠ i) → oi.apart ops oj = true) →
      i ∈ Region.ready md ops listed → YieldsIf P ops T oi v a → T w → (listed.getD last true = false → S w) → ((∀ w, T w) ∨ (waits md ops last i = true ∧ listed.getD last true = false ∧ ∀ w, S w → T w)) →
      wpAnyK P md ops Q S last fuel (listed.setIfInBounds i true) (a.put oi.dst v) w → wpAnyK P md ops Q S last (fuel + 1) listed a w := by
  intro fuel
  induction fuel with
  | zero =>
    intro listed a w _ hr hy hT hS _ H
    refine ⟨fun h => (by rw [h] at hr; cases hr), fun j hj => ?_⟩
    by_cases hji : j = i
    · subst hji; exact hy.wpOp hi hT ⟨fun _ => hS, H⟩
    · have := ready_mono hj hji
      rw [H.1] at this
      cases this
  | succ fuel ih =>
    intro listed a w hfree hr hy hT hS hw H
    refine ⟨fun h => (by rw [h] at hr; cases hr), fun j hj => ?_⟩
    by_cases hji : j = i
    · subst hji; exact hy.wpOp hi hT ⟨fun _ => hS, H⟩
    · have h1 := H.2 j (ready_mono hj hji)
      obtain ⟨hjun, oj, hoj, hall⟩ := mem_ready.1 hj
      have hnot : ∀ e ∈ oj.after, Region.binds md e = true → e.on ≠ i := fun e he hb heq => by
        have h1 := hall e he hb
        have h0 := (mem_ready.1 hr).1
        rw [heq] at h1
        rcases Nat.lt_or_ge i listed.size with h' | h'
        · simp [h'] at h0 h1; rw [h0] at h1; cases h1
        · simp [Array.getElem?_eq_none h'] at h1
      have h2 := wpOp_putIf hoj (hfree j oj hoj hji hjun hnot) (fun cs b => hsel i oi cs b hi) (fun cs b => hsel j oj cs b hoj) hQ hy h1
      have hfree' : ∀ k ok, ops[k]? = some ok → k ≠ i → (listed.setIfInBounds j true).getD k true = false →
          (∀ e ∈ ok.after, Region.binds md e = true → e.on ≠ i) → oi.apart ops ok = true := fun k ok hk hki hun hno => by
        refine hfree k ok hk hki ?_ hno
        by_cases hjk : j = k
        · subst hjk; exact hjun
        · rw [getD_set_ne true hjk] at hun; exact hun
      have hlast : (listed.setIfInBounds i true).getD last true = listed.getD last true := getD_set_ne true hil
      refine wpOp_mono (fun a' w' h3 => ?_) h2
      obtain ⟨h4, h5, h6⟩ := h3
      have hS' : j ≠ last → listed.getD last true = false → S w' := fun n1 n2 => h5 n1 (hlast.trans n2)
      have hlj : (listed.setIfInBounds j true).getD last true = false → j ≠ last ∧ listed.getD last true = false := fun h => by
        by_cases hjl : j = last
        · subst hjl
          rcases Nat.lt_or_ge j listed.size with h' | h'
          · simp [h'] at h
          · simp [Array.getElem?_eq_none h'] at h
        · exact ⟨hjl, by rw [getD_set_ne true hjl] at h; exact h⟩
      refine ⟨hS', ih (listed.setIfInBounds j true) a' w' hfree' (ready_mono hr (Ne.symm hji)) h4 ?_ (fun h => hS' (hlj h).1 (hlj h).2) ?_ (by rw [Array.setIfInBounds_comm _ _ hji]; exact h6)⟩
      · rcases hw with hw | ⟨w1, w2, w3⟩
        · exact hw w'
        · exact w3 w' (hS' (fun e => waits_spec w1 hr (e ▸ hj)) w2)
      · rcases hw with hw | ⟨w1, w2, w3⟩
        · exact .inl hw
        · have hjl : j ≠ last := fun e => waits_spec w1 hr (e ▸ hj)
          exact .inr ⟨w1, by rw [getD_set_ne true hjl]; exact w2, w3⟩
theorem K_take (i : Nat) {oi : Oper} {v : Value} {fuel : Nat} {listed : Array Bool} {a : Act} {w : World} (hi : ops[i]? = some oi)
    (hs : Region.noSelect ops = true) (hf : Region.free md ops listed i = true) (hr : (Region.ready md ops listed).contains i = true) (hw : waits md ops last i = true) (hil : (i != last) = true) (hl : listed.getD last true = false)
    (hQ : ∀ c a w, Q (.panic c) (a.put oi.dst v) w → Q (.panic c) a w) (hy : YieldsIf P ops S oi v a) (hS : S w)
    (h : wpAnyK P md ops Q S last fuel (listed.setIfInBounds i true) (a.put oi.dst v) w) : wpAnyK P md ops Q S last (fuel + 1) listed a w :=
  wpAnyK_first hi (Region.noSelect_spec hs) hQ (by simpa using hil) fuel listed a w (Region.free_spec hi hf) (by simpa using hr) hy hS (fun _ => hS) (.inr ⟨hw, hl, fun _ h => h⟩) h
theorem K_free (i : Nat) {oi : Oper} {v : Value} {fuel : Nat} {listed : Array Bool} {a : Act} {w : World} (hi : ops[i]? = some oi)
    (hs : Region.noSelect ops = true) (hf : Region.free md ops listed i = true) (hr : (Region.ready md ops listed).contains i = true) (hil : (i != last) = true)
    (hQ : ∀ c a w, Q (.panic c) (a.put oi.dst v) w → Q (.panic c) a w) (hy : YieldsIf P ops (fun _ => True) oi v a) (hS : listed.getD last true = true ∨ S w)
    (h : wpAnyK P md ops Q S last fuel (listed.setIfInBounds i true) (a.put oi.dst v) w) : wpAnyK P md ops Q S last (fuel + 1) listed a w :=
  wpAnyK_first (T := fun _ => True) hi (Region.noSelect_spec hs) hQ (by simpa using hil) fuel listed a w (Region.free_spec hi hf) (by simpa using hr) hy trivial (fun h => hS.resolve_left (fun h1 => by rw [h1] at h; cases h)) (.inl fun _ => trivial) h
theorem K_one (i : Nat) {o : Oper} {fuel : Nat} {listed : Array Bool} {a : Act} {w : World} (hi : ops[i]? = some o) (hr : Region.ready md ops listed = [i])
    (h : ∀ K, (∀ a' w', (i ≠ last → listed.getD last true = false → S w') ∧ wpAnyK P md ops Q S last fuel (listed.setIfInBounds i true) a' w' → K a' w') → if Region.wanted o (yielded ops a.tmps) = true then Oper.wp P o a w K Q else K (a.put o.dst undef) w) : wpAnyK P md ops Q S last (fuel + 1) listed a w := by
  refine ⟨fun h0 => absurd (hr ▸ h0) (by simp), fun j hj => ?_⟩
  rw [hr, List.mem_singleton] at hj
  subst hj
  have h1 := h _ (fun _ _ h => h)
  unfold wpOp
  simp only [hi]
  split
  · rename_i hw; rw [if_pos hw] at h1; exact .inl h1
  · rename_i hw; rw [if_neg hw] at h1; exact h1
theorem K_done {fuel : Nat} {listed : Array Bool} {a : Act} {w : World} (hr : Region.ready md ops listed = []) (h : Q .normal a w) : wpAnyK P md ops Q S last fuel listed a w := by
  cases fuel with
  | zero => exact ⟨hr, h⟩
  | succ n => exact ⟨fun _ => h, by rw [hr]; simp⟩
end
theorem region_K {P : Program} {id : Nat} {ops : Array Oper} {Q : Exit → Act → World → Prop} (S : World → Prop) (last : Nat) {a : Act} {w : World} (hm : P.follows .mixedOrders = true)
    (h : wpAnyK P .any ops (OnlyOn Q) S last ops.size (Array.replicate ops.size false) a w.drew) : (Code.region id ops true).wp P Q a w :=
  Code.wp_mono OnlyOn.imp (wp_region_any hm (wpAny_of_K _ _ _ _ h))
theorem step_store_mid {P : Program} {ops : Array Oper} {o : Oper} {a : Act} {w : World} {K : Act → World → Prop} {Q : Exit → Act → World → Prop} {E : Prop} (hgd : o.guard = none) (ty : TypeId) (x y : Operand) (ho : o.op = .store ty x y)
    (b k : Nat) (cells : Array Value) (hx : a.eval x = .pointer (some ⟨b, k, none⟩)) (hy : a.eval y = .agg cells)
    (ht : w.there b k cells.size) (hi : (P.info? ty).map (·.size) = some cells.size) (h1 : cells.all (·.oneCell') = true)
    (h : K (a.put o.dst undef) (w.setCells b k cells.toList)) : if Region.wanted o (yielded ops a.tmps) = true then Oper.wp P o a w K Q else E := by
  have hw : Region.wanted o (yielded ops a.tmps) = true := by simp [Region.wanted, hgd]
  rw [if_pos hw]
  exact wp_store_mid ty x y ho b k cells hx hy ht hi h1 h
end Go.Proofs.YtjjikkhhlpikbaaGreatDoor
