/-
  Bytes of both.
-/
import Derived.Test.YtpijfiaecicpfaaCj
namespace Go.Proofs.Ytpijfiaecicpfaa
open Go.RowKit Go.Shelf
set_option linter.unusedVariables false
set_option linter.unusedSimpArgs false
/-- What both write an index as: nothing where something is wrong with it. -/
noncomputable def bysX (xs : List Nx) : List Int := if wrongX xs = 0 then bytesX xs else []
/-- It returns an index's bytes. -/
def GiveBy (xs : List Nx) (w : World) (e : Ending) (w' : World) : Prop := ∃ A n c, e = .returned (.tuple #[.slice A n c, .int .i64 (chkE xs)]) ∧ RdB w' A n c (bysX xs) ∧ Ext w w'
set_option maxRecDepth 100000 in
set_option maxHeartbeats 20000000 in
theorem Bytes_any (A : Option Addr) (n c : Nat) (xs : List Nx) (w : World) (hr : RX w A n c xs) : Calls Try.prog 22 #[.agg #[.slice A n c]] w (GiveBy xs w) := by
  obtain hn := hr.len
  have hm := RX.max hr
  have hx1 := hid ((Ext.refl w).alloc_right (.cells #[.slice A n c] 37))
  have hb0 := heap_alloc_new w (.cells #[.slice A n c] 37)
  have hck := hid (fun w' (hx : Ext w w') => pCheck_any A n c xs w' (hr.ext hx))
  replace hr := hid hr
  by_cases h0 : wrongX xs = 0
  · have hN := hid (fun k (hk : k < xs.length) => okN_at h0 hk)
    have hE : Hid (bysX xs = bytesX xs ∧ chkE xs = 0) := ⟨if_pos h0, if_pos h0⟩
    have hnn := (wrong_none.1 h0).2.1
    have hisB := hid (bytes_isB h0)
    rw [h0, hE.out.2] at hck
    rw [hn] at hnn
    replace hn := hid hn
    clear h0
    go_enter Try.func22, Try.ntmps22
    go_upto_region 1 with fail
    obtain ⟨b, hb⟩ : ∃ b, b = w.heap.size := ⟨_, rfl⟩
    rw [← hb] at hb0
    simp only [← hb]
    replace hb := hid hb
    generalize w.alloc (.cells #[.slice A n c] 37) = w1 at *
    have hcell : Hid (∀ w', Ext w1 w' → w'.cell? ⟨b, 0, none⟩ = some (.slice A n c) ∧ b < w'.heap.size ∧ w'.heap[b]? = some (.cells #[.slice A n c] 37 (0, 0))) := fun w' hx => by
      have h := (hx.block (Array.getElem?_eq_some_iff.1 hb0).1).trans hb0
      exact ⟨by rw [Lib.cell_of_heap h]; rfl, (Array.getElem?_eq_some_iff.1 h).1, h⟩
    clear hb0
    obtain ⟨zb, lb, -⟩ := hcell.out _ (Ext.refl _)
    go_wp2_with fail
    refine (hck.out _ hx1.out).mono ?_
    rintro e w2 ⟨rfl, hx2⟩
    replace hx1 := hid (hx1.out.trans hx2)
    clear zb lb hck
    obtain ⟨zb, lb, hbb⟩ := hcell.out _ hx2
    have hcell2 : Hid (∀ w', Ext w2 w' → w'.cell? ⟨b, 0, none⟩ = some (.slice A n c) ∧ b < w'.heap.size ∧ w'.heap[b]? = some (.cells #[.slice A n c] 37 (0, 0))) := fun w' hx => hcell.out _ (hx2.trans hx)
    clear hcell hx2
    have hTw := hid (ptwo_any w2 w2 (.slice none 0 0) [] n b _ _ (OW.nil (Ext.refl _) hbb (by decide)) (by simp) (by omega))
    clear hbb
    go_wp2_with fail
    refine hTw.out.mono ?_
    rintro e w3 ⟨A6, n6, c6, rfl, hn6, hO⟩
    replace hO := hid hO
    clear hTw zb lb
    have hL0 : Hid ((([] ++ twoL n) : List Int) = twoL n) := rfl
    rw [hL0.out] at hO hn6
    obtain ⟨zb, lb, -⟩ := hcell2.out _ hO.out.1
    go_wp2_with fail
    clear zb lb
    go_loopw [6, 28] (fun o i wr => ∃ (k : Nat) (A6 : Option Addr) (n6 c6 : Nat), k ≤ n ∧ i = .int .i64 k ∧ o = .slice A6 n6 c6 ∧ Hid (OW w2 wr (.slice A6 n6 c6) (twoL n ++ (xs.take k).flatMap ndB) b #[.slice A n c] 37)) (fun _ i _ => n - (intOf i).toNat)
    case atStart => exact ⟨0, _, _, _, by omega, rfl, rfl, hid (by have := hO.out; simpa using this)⟩
    case round =>
      clear hO hn6
      obtain ⟨k, A6, n6, c6, hk, rfl, rfl, hO⟩ := hrel
      obtain ⟨zb, lb, -⟩ := hcell2.out _ hO.out.1
      by_cases hlt : k < n
      · have hki : (k : Int) < (n : Int) := by omega
        obtain ⟨ad0, A1, c1, A2, c2, A3, c3, rfl, y0, y1, y2, r1, r2, r3⟩ := hr.out.at_ hlt
        have hNk := hN.out k (by rw [hn.out]; exact hlt)
        obtain ⟨x, hx⟩ : ∃ x, x = xth xs k := ⟨_, rfl⟩
        have hPL := hid (show ((xs.take (k + 1)).flatMap ndB = (xs.take k).flatMap ndB ++ ndB x) by rw [flat_snoc (by rw [hn.out]; exact hlt), hx, xth_get (by rw [hn.out]; exact hlt)])
        have hPb : Hid (((xs.take k).flatMap ndB).length ≤ 1017600) := by
          have h := flat_lenB (l := xs.take k) (F := ndB) (m := 424) (fun y hy => by
            obtain ⟨q, hq, rfl⟩ := List.getElem_of_mem (List.mem_of_mem_take hy)
            rw [← xth_get hq]
            exact nd_len (hN.out q hq))
          have h2 : (xs.take k).length ≤ 2400 := by rw [List.length_take]; omega
          have h3 : (xs.take k).length * 424 ≤ 2400 * 424 := Nat.mul_le_mul_right _ h2
          show ((xs.take k).flatMap ndB).length ≤ 1017600
          omega
        rw [← hx] at y0 y1 y2 r1 r2 r3 hNk
        replace hx := hid hx
        generalize (xs.take k).flatMap ndB = P at *
        obtain ⟨o1, o2, o3, o4, o5⟩ := hNk
        have hxw := hx1.out.trans hO.out.1
        replace y0 := hxw.cell y0
        replace y1 := hxw.cell y1
        replace y2 := hxw.cell y2
        clear hxw
        obtain ⟨m1, hm1⟩ : ∃ m1, x.keys.length = m1 := ⟨_, rfl⟩
        obtain ⟨m2, hm2⟩ : ∃ m2, x.recs.length = m2 := ⟨_, rfl⟩
        obtain ⟨m3, hm3⟩ : ∃ m3, x.kids.length = m3 := ⟨_, rfl⟩
        rw [hm1] at y0 o1 o2
        rw [hm2] at y1 o1
        rw [hm3] at y2 o3
        subst o1
        have q1 : m2 ≤ 4 := o2
        have q3 : m3 ≤ 5 := o3
        have hE2 : Hid ((ents x).length = m2) := by unfold Hid; rw [ents_len (by rw [hm1, hm2])]; exact hm1
        replace r1 := hid r1
        replace r2 := hid r2
        replace r3 := hid r3
        replace o4 := hid o4
        replace o5 := hid o5
        replace hm1 := hid hm1
        replace hm2 := hid hm2
        replace hm3 := hid hm3
        have u1 := IntWalk.u8_in (m2 : Int) (by omega)
        have u3 := IntWalk.u8_in (m3 : Int) (by omega)
        have hxa := (Ext.refl wr).alloc_right (.cells #[.slice A1 m2 c1, .slice A2 m2 c2, .slice A3 m3 c3] 69)
        have hna := heap_alloc_new wr (.cells #[.slice A1 m2 c1, .slice A2 m2 c2, .slice A3 m3 c3] 69)
        go_upto_region 8 with fail
        obtain ⟨p, hp⟩ : ∃ p, p = wr.heap.size := ⟨_, rfl⟩
        rw [← hp] at hna
        simp only [← hp]
        clear zb lb y0 y1 y2
        have hOa := (hO.out.up hxa).swap hna (by decide)
        clear hO
        generalize wr.alloc (.cells #[.slice A1 m2 c1, .slice A2 m2 c2, .slice A3 m3 c3] 69) = wa at *
        clear hxa hp
        obtain ⟨z0, z1, z2⟩ := nd3_c hna
        have lp := (Array.getElem?_eq_some_iff.1 hna).1
        clear hna
        have hxb := (Ext.refl wa).alloc_right (.cells #[.int .u8 (m2 : Int), .int .u8 (m3 : Int)] 5)
        obtain ⟨A7, n7, c7, w7, hn7, happ, hO7⟩ := (hOa.up hxb).app (M := [(m2 : Int), (m3 : Int)]) (rd_new2 wa _ _) (by simp [twoL]; have := hPb.out; omega) (by simp)
        replace happ := hid happ
        replace hO7 := hid hO7
        clear hOa hxb
        obtain ⟨y0, y1, y2⟩ := nd3_c hO7.out.2.2.1
        have ly := (Array.getElem?_eq_some_iff.1 hO7.out.2.2.1).1
        go_wp2_with (at_builtin; refine wpList_app rfl _ _ 43 43 rfl _ _ rfl rfl _ happ.out ?_)
        go_wp2_with fail
        clear z0 z1 z2 lp happ u1 u3 hn7 y0 y1 y2 ly
        go_loopw [6, 46] (fun o i wr => ∃ (q : Nat) (A8 : Option Addr) (n8 c8 : Nat), q ≤ m2 ∧ i = .int .i64 q ∧ o = .slice A8 n8 c8 ∧ Hid (OW w2 wr (.slice A8 n8 c8) (twoL n ++ P ++ [(m2 : Int), (m3 : Int)] ++ ((ents x).take q).flatMap kvB) p #[.slice A1 m2 c1, .slice A2 m2 c2, .slice A3 m3 c3] 69)) (fun _ i _ => m2 - (intOf i).toNat)
        case atStart => exact ⟨0, _, _, _, by omega, rfl, rfl, hid (by have := hO7.out; simpa using this)⟩
        case round =>
          clear hO7
          obtain ⟨q, A8, n8, c8, hq, rfl, rfl, hO⟩ := hrel
          obtain ⟨z0, z1, z2⟩ := nd3_c hO.out.2.2.1
          have lp := (Array.getElem?_eq_some_iff.1 hO.out.2.2.1).1
          by_cases hqt : q < m2
          · have hqi : (q : Int) < (m2 : Int) := by omega
            have hxo := hx1.out.trans hO.out.1
            obtain ⟨kad, rfl, zk⟩ := rds_at (r1.out.ext hxo) (k := q) (by rw [hm1.out]; exact hqt)
            obtain ⟨rad, rfl, zr⟩ := RdI.at_ (r2.out) (k := q) (by rw [hm2.out]; exact hqt)
            have het : tth (ents x) q = ⟨sth x.keys q, ith x.recs q⟩ := ents_at (by rw [hm1.out, hm2.out]) (by rw [hm1.out]; exact hqt)
            have hok : (sth x.keys q).size ≤ 100 ∧ 1 ≤ ith x.recs q ∧ ith x.recs q ≤ 300 := by
              have h := okT_is (o4.out (tth (ents x) q) (by rw [tth_get (by rw [hE2.out]; exact hqt)]; exact List.getElem_mem _))
              rw [het] at h
              exact h
            have hKL := hid (show (((ents x).take (q + 1)).flatMap kvB = ((ents x).take q).flatMap kvB ++ kvB ⟨sth x.keys q, ith x.recs q⟩) by rw [flat_snoc (by rw [hE2.out]; exact hqt), ← tth_get (by rw [hE2.out]; exact hqt), het])
            have hQb : Hid ((((ents x).take q).flatMap kvB).length ≤ 412) := by
              have h := flat_lenB (l := (ents x).take q) (F := kvB) (m := 103) (fun y hy => kv_len (o4.out y (List.mem_of_mem_take hy)))
              have h2 : ((ents x).take q).length ≤ 4 := by rw [List.length_take]; omega
              have h3 : ((ents x).take q).length * 103 ≤ 4 * 103 := Nat.mul_le_mul_right _ h2
              show (((ents x).take q).flatMap kvB).length ≤ 412
              omega
            generalize ((ents x).take q).flatMap kvB = Q at *
            have hrr : Hid (nth x.recs q = ith x.recs q) := rfl
            rw [hrr.out] at zr
            generalize sth x.keys q = s at *
            generalize ith x.recs q = z at *
            replace hok := hid hok
            obtain ⟨k1, k2, k3⟩ := hok.out
            clear het
            have u1 := IntWalk.u8_in (s.size : Int) (by omega)
            have zr0 := hid zr
            replace zr := hxo.cell zr
            have hxb := (Ext.refl wr).alloc_right (.cells #[.int .u8 (s.size : Int)] 5)
            obtain ⟨A7, n7, c7, w7, hn7, happ, hO7⟩ := (hO.out.up hxb).app (M := [(s.size : Int)]) (rd_new1 wr _ _) (by simp [twoL]; have := hPb.out; have := hQb.out; omega) (by simp)
            obtain ⟨A9, n9, c9, w9, hn9, happ2, hO9⟩ := hO7.appS s (by simp [twoL]; have := hPb.out; have := hQb.out; omega) (by omega)
            have hTw := hid (ptwo_any w2 w9 _ _ z p _ _ hO9 (by simp [twoL, txt_len]; have := hPb.out; have := hQb.out; omega) (by omega))
            replace happ := hid happ
            replace happ2 := hid happ2
            have hx9 := hid (hx1.out.trans hO9.1)
            obtain ⟨y0, y1, y2⟩ := nd3_c hO9.2.2.1
            have ly := (Array.getElem?_eq_some_iff.1 hO9.2.2.1).1
            have zr := hx9.out.cell zr0.out
            clear hxb hO hO7 hxo hO9
            go_wp2_with (at_builtin; first | (refine wpList_app rfl _ _ 43 43 rfl _ _ rfl rfl _ happ.out ?_) | (refine wpList_app rfl _ _ 43 9 rfl _ _ rfl rfl _ happ2.out ?_))
            refine hTw.out.mono ?_
            rintro e w10 ⟨A5, n5, c5, rfl, hn5, hO5⟩
            have hOe : Hid (OW w2 w10 (.slice A5 n5 c5) (twoL n ++ P ++ [(m2 : Int), (m3 : Int)] ++ ((ents x).take (q + 1)).flatMap kvB) p #[.slice (some kad) m2 c1, .slice (some rad) m2 c2, .slice A3 m3 c3] 69) := by
              have h := hO5
              rw [hKL.out]
              refine hid ?_
              show OW _ _ _ (_ ++ (Q ++ ((s.size : Int) :: (txt s ++ twoL z)))) _ _ _
              simpa using h
            clear hTw hO5 hKL zr z0 z1 z2 lp y0 y1 y2 ly zk u1 happ happ2
            go_wp2_with fail
            go_roundw
            case rel => exact ⟨q + 1, _, _, _, by omega, by go_num, rfl, hOe⟩
            case measure => simp [intOf]; omega
          · obtain rfl : q = m2 := by omega
            have hKQ : Hid ((ents x).take q = ents x) := List.take_of_length_le (by rw [hE2.out]; exact Nat.le_refl _)
            rw [hKQ.out] at hO
            have hQb : Hid (((ents x).flatMap kvB).length ≤ 412) := by
              have h := flat_lenB (l := ents x) (F := kvB) (m := 103) (fun y hy => kv_len (o4.out y hy))
              have := hE2.out
              show ((ents x).flatMap kvB).length ≤ 412
              omega
            go_wp2_with fail
            clear z0 z1 z2 lp
            go_loopw [6, 70] (fun o i wr => ∃ (j : Nat) (A8 : Option Addr) (n8 c8 : Nat), j ≤ m3 ∧ i = .int .i64 j ∧ o = .slice A8 n8 c8 ∧ Hid (OW w2 wr (.slice A8 n8 c8) (twoL n ++ P ++ [(q : Int), (m3 : Int)] ++ (ents x).flatMap kvB ++ (x.kids.take j).flatMap twoL) p #[.slice A1 q c1, .slice A2 q c2, .slice A3 m3 c3] 69)) (fun _ i _ => m3 - (intOf i).toNat)
            case atStart => exact ⟨0, _, _, _, by omega, rfl, rfl, hid (by have := hO.out; simpa using this)⟩
            case round =>
              clear hO
              obtain ⟨j, A8, n8, c8, hj, rfl, rfl, hO⟩ := hrel
              obtain ⟨z0, z1, z2⟩ := nd3_c hO.out.2.2.1
              have lp := (Array.getElem?_eq_some_iff.1 hO.out.2.2.1).1
              by_cases hjt : j < m3
              · have hji : (j : Int) < (m3 : Int) := by omega
                obtain ⟨dad, rfl, zd⟩ := RdI.at_ (r3.out.ext (hx1.out.trans hO.out.1)) (k := j) (by rw [hm3.out]; exact hjt)
                have hzz : nth x.kids j = x.kids[j]'(by rw [hm3.out]; exact hjt) := nth_lt (by rw [hm3.out]; exact hjt)
                have hDL := hid (show ((x.kids.take (j + 1)).flatMap twoL = (x.kids.take j).flatMap twoL ++ twoL (nth x.kids j)) by rw [flat_snoc (by rw [hm3.out]; exact hjt), hzz])
                have hz5 : 0 ≤ nth x.kids j ∧ nth x.kids j ≤ 65535 := by rw [hzz]; exact o5.out _ (List.getElem_mem _)
                have hDb : Hid (((x.kids.take j).flatMap twoL).length ≤ 10) := by
                  have h := flat_lenB (l := x.kids.take j) (F := twoL) (m := 2) (fun y hy => Nat.le_refl _)
                  have h2 : (x.kids.take j).length ≤ 5 := by rw [List.length_take]; omega
                  show ((x.kids.take j).flatMap twoL).length ≤ 10
                  omega
                clear hzz
                generalize (x.kids.take j).flatMap twoL = D at *
                generalize (ents x).flatMap kvB = Q at *
                generalize nth x.kids j = z at *
                have hTw := hid (ptwo_any w2 wr _ _ z p _ _ hO.out (by simp [twoL]; have := hPb.out; have := hQb.out; have := hDb.out; omega) hz5)
                clear hO
                go_wp2_with fail
                refine hTw.out.mono ?_
                rintro e w10 ⟨A5, n5, c5, rfl, hn5, hO5⟩
                have hOe : Hid (OW w2 w10 (.slice A5 n5 c5) (twoL n ++ P ++ [(q : Int), (m3 : Int)] ++ Q ++ (x.kids.take (j + 1)).flatMap twoL) p #[.slice A1 q c1, .slice A2 q c2, .slice (some dad) m3 c3] 69) := by
                  have h := hO5
                  rw [hDL.out]
                  refine hid ?_
                  simpa using h
                clear hTw hO5 hDL zd z0 z1 z2 lp
                go_wp2_with fail
                go_roundw
                case rel => exact ⟨j + 1, _, _, _, by omega, by go_num, rfl, hOe⟩
                case measure => simp [intOf]; omega
              · obtain rfl : j = m3 := by omega
                have hfin : Hid (twoL n ++ P ++ [(q : Int), (j : Int)] ++ (ents x).flatMap kvB ++ (x.kids.take j).flatMap twoL = twoL n ++ (xs.take (k + 1)).flatMap ndB) := by
                  rw [show x.kids.take j = x.kids from List.take_of_length_le (by rw [hm3.out]; exact Nat.le_refl _), hPL.out]
                  show _ = twoL n ++ (P ++ ((x.keys.length : Int) :: (x.kids.length : Int) :: ((ents x).flatMap kvB ++ x.kids.flatMap twoL)))
                  rw [hm1.out, hm3.out]
                  simp
                rw [hfin.out] at hO
                have hOb := hid (hO.out.swap (hcell2.out _ hO.out.1).2.2 (by decide))
                clear hO hPL hfin
                go_wp2_with fail
                go_roundw
                case rel => exact ⟨k + 1, _, _, _, by omega, by go_num, rfl, hOb⟩
                case measure => simp [intOf]; omega
      · obtain rfl : k = n := by omega
        have hall : Hid (twoL k ++ (xs.take k).flatMap ndB = bytesX xs) := by
          rw [show xs.take k = xs from List.take_of_length_le (by rw [hn.out]; exact Nat.le_refl _)]
          unfold Hid bytesX
          rw [hn.out]
        rw [hall.out] at hO
        obtain ⟨A9, c9, e9, hrd⟩ := hO.out.rd hisB.out
        injection e9 with e9 e8 e7
        subst e9 e8 e7
        have hfin : Hid (GiveBy xs w (.returned (.tuple #[.slice A6 (bytesX xs).length c6, .int .i64 0])) wr) := by
          refine ⟨A6, (bytesX xs).length, c6, ?_, ?_, hx1.out.trans hO.out.1⟩
          · rw [hE.out.2]
          · rw [hE.out.1]; exact hrd
        generalize (bytesX xs).length = N9 at *
        clear hO hrd
        go_wp2
        go_ret2
        exact hfin.out
  · have hE : Hid (bysX xs = [] ∧ chkE xs = 11) := ⟨if_neg h0, if_neg h0⟩
    rw [hE.out.2] at hck
    have hfin : Hid (∀ w', Ext w w' → GiveBy xs w (.returned (.tuple #[.slice none 0 0, .int .i64 11])) w') := fun w' hx => by
      refine ⟨none, 0, 0, ?_, ?_, hx⟩
      · rw [hE.out.2]
      · rw [hE.out.1]; exact ⟨Rd.none_ _ 1, isB_nil⟩
    clear h0
    go_enter Try.func22, Try.ntmps22
    go_upto_region 1 with fail
    have zb : (w.alloc (.cells #[.slice A n c] 37)).cell? ⟨w.heap.size, 0, none⟩ = some (.slice A n c) := by rw [Lib.cell_of_heap hb0]; rfl
    have lb := (Array.getElem?_eq_some_iff.1 hb0).1
    clear hb0
    go_wp2_with fail
    refine (hck.out _ hx1.out).mono ?_
    rintro e w2 ⟨rfl, hx2⟩
    go_wp2
    go_ret2
    exact hfin.out _ (hx1.out.trans hx2)
set_option maxRecDepth 100000 in
set_option maxHeartbeats 20000000 in
theorem rBytes_any (A : Option Addr) (n c : Nat) (xs : List Nx) (w : World) (hr : RX w A n c xs) : Calls Try.prog 23 #[.agg #[.slice A n c]] w (GiveBy xs w) := by
  obtain hn := hr.len
  have hm := RX.max hr
  have hx1 := hid ((Ext.refl w).alloc_right (.cells #[.slice A n c] 37))
  have hb0 := heap_alloc_new w (.cells #[.slice A n c] 37)
  have hck := hid (fun w' (hx : Ext w w') => rCheck_any A n c xs w' (hr.ext hx))
  replace hr := hid hr
  by_cases h0 : wrongX xs = 0
  · have hN := hid (fun k (hk : k < xs.length) => okN_at h0 hk)
    have hE : Hid (bysX xs = bytesX xs ∧ chkE xs = 0) := ⟨if_pos h0, if_pos h0⟩
    have hnn := (wrong_none.1 h0).2.1
    have hisB := hid (bytes_isB h0)
    rw [h0, hE.out.2] at hck
    rw [hn] at hnn
    replace hn := hid hn
    clear h0
    go_enter Try.func23, Try.ntmps23
    go_upto_region 1 with fail
    obtain ⟨b, hb⟩ : ∃ b, b = w.heap.size := ⟨_, rfl⟩
    rw [← hb] at hb0
    simp only [← hb]
    replace hb := hid hb
    generalize w.alloc (.cells #[.slice A n c] 37) = w1 at *
    have hcell : Hid (∀ w', Ext w1 w' → w'.cell? ⟨b, 0, none⟩ = some (.slice A n c) ∧ b < w'.heap.size ∧ w'.heap[b]? = some (.cells #[.slice A n c] 37 (0, 0))) := fun w' hx => by
      have h := (hx.block (Array.getElem?_eq_some_iff.1 hb0).1).trans hb0
      exact ⟨by rw [Lib.cell_of_heap h]; rfl, (Array.getElem?_eq_some_iff.1 h).1, h⟩
    clear hb0
    obtain ⟨zb, lb, -⟩ := hcell.out _ (Ext.refl _)
    go_wp2_with fail
    refine (hck.out _ hx1.out).mono ?_
    rintro e w2 ⟨rfl, hx2⟩
    replace hx1 := hid (hx1.out.trans hx2)
    clear zb lb hck
    obtain ⟨zb, lb, hbb⟩ := hcell.out _ hx2
    have hcell2 : Hid (∀ w', Ext w2 w' → w'.cell? ⟨b, 0, none⟩ = some (.slice A n c) ∧ b < w'.heap.size ∧ w'.heap[b]? = some (.cells #[.slice A n c] 37 (0, 0))) := fun w' hx => hcell.out _ (hx2.trans hx)
    clear hcell hx2
    have hTw := hid (rtwo2_any n w2 (by omega))
    have hO : Hid (OW w2 (w2.alloc (.cells #[.int .u8 ((n : Int) % 256), .int .u8 ((n : Int) / 256)] 5)) (.slice (some ⟨w2.heap.size, 0, none⟩) 2 2) (twoL n) b #[.slice A n c] 37) := by
      have hx := (Ext.refl w2).alloc_right (.cells #[.int .u8 ((n : Int) % 256), .int .u8 ((n : Int) / 256)] 5)
      exact ⟨hx, ⟨rfl, .inr ⟨_, 2, _, rfl, Nat.le_refl _, heap_alloc_new w2 _, Nat.le_refl _, by decide, rfl, rfl⟩⟩, (hx.block (Array.getElem?_eq_some_iff.1 hbb).1).trans hbb, by decide⟩
    clear hbb
    go_wp2_with fail
    refine hTw.out.mono ?_
    rintro e w3 ⟨rfl, rfl⟩
    have hn6 : Hid (2 = (twoL n).length) := rfl
    generalize w2.alloc (.cells #[.int .u8 ((n : Int) % 256), .int .u8 ((n : Int) / 256)] 5) = w3 at *
    obtain ⟨A6, hA6⟩ : ∃ A6 : Option Addr, A6 = some ⟨w2.heap.size, 0, none⟩ := ⟨_, rfl⟩
    simp only [← hA6]
    rw [← hA6] at hO
    clear hA6
    clear hTw zb lb
    have hL0 : Hid ((twoL n : List Int) = twoL n) := rfl
    rw [hL0.out] at hO hn6
    obtain ⟨zb, lb, -⟩ := hcell2.out _ hO.out.1
    go_wp2_with fail
    clear zb lb
    go_loopw [6, 7] (fun o i wr => ∃ (k : Nat) (A6 : Option Addr) (n6 c6 : Nat), k ≤ n ∧ i = .int .i64 k ∧ o = .slice A6 n6 c6 ∧ Hid (OW w2 wr (.slice A6 n6 c6) (twoL n ++ (xs.take k).flatMap ndB) b #[.slice A n c] 37)) (fun _ i _ => n - (intOf i).toNat)
    case atStart => exact ⟨0, _, _, _, by omega, rfl, rfl, hid (by have := hO.out; simpa using this)⟩
    case round =>
      clear hO hn6
      obtain ⟨k, A6, n6, c6, hk, rfl, rfl, hO⟩ := hrel
      obtain ⟨zb, lb, -⟩ := hcell2.out _ hO.out.1
      by_cases hlt : k < n
      · have hki : (k : Int) < (n : Int) := by omega
        obtain ⟨ad0, A1, c1, A2, c2, A3, c3, rfl, y0, y1, y2, r1, r2, r3⟩ := hr.out.at_ hlt
        have hNk := hN.out k (by rw [hn.out]; exact hlt)
        obtain ⟨x, hx⟩ : ∃ x, x = xth xs k := ⟨_, rfl⟩
        have hPL := hid (show ((xs.take (k + 1)).flatMap ndB = (xs.take k).flatMap ndB ++ ndB x) by rw [flat_snoc (by rw [hn.out]; exact hlt), hx, xth_get (by rw [hn.out]; exact hlt)])
        have hPb : Hid (((xs.take k).flatMap ndB).length ≤ 1017600) := by
          have h := flat_lenB (l := xs.take k) (F := ndB) (m := 424) (fun y hy => by
            obtain ⟨q, hq, rfl⟩ := List.getElem_of_mem (List.mem_of_mem_take hy)
            rw [← xth_get hq]
            exact nd_len (hN.out q hq))
          have h2 : (xs.take k).length ≤ 2400 := by rw [List.length_take]; omega
          have h3 : (xs.take k).length * 424 ≤ 2400 * 424 := Nat.mul_le_mul_right _ h2
          show ((xs.take k).flatMap ndB).length ≤ 1017600
          omega
        rw [← hx] at y0 y1 y2 r1 r2 r3 hNk
        replace hx := hid hx
        generalize (xs.take k).flatMap ndB = P at *
        obtain ⟨o1, o2, o3, o4, o5⟩ := hNk
        have hxw := hx1.out.trans hO.out.1
        replace y0 := hxw.cell y0
        replace y1 := hxw.cell y1
        replace y2 := hxw.cell y2
        clear hxw
        obtain ⟨m1, hm1⟩ : ∃ m1, x.keys.length = m1 := ⟨_, rfl⟩
        obtain ⟨m2, hm2⟩ : ∃ m2, x.recs.length = m2 := ⟨_, rfl⟩
        obtain ⟨m3, hm3⟩ : ∃ m3, x.kids.length = m3 := ⟨_, rfl⟩
        rw [hm1] at y0 o1 o2
        rw [hm2] at y1 o1
        rw [hm3] at y2 o3
        subst o1
        have q1 : m2 ≤ 4 := o2
        have q3 : m3 ≤ 5 := o3
        have hE2 : Hid ((ents x).length = m2) := by unfold Hid; rw [ents_len (by rw [hm1, hm2])]; exact hm1
        replace r1 := hid r1
        replace r2 := hid r2
        replace r3 := hid r3
        replace o4 := hid o4
        replace o5 := hid o5
        replace hm1 := hid hm1
        replace hm2 := hid hm2
        replace hm3 := hid hm3
        have u1 := IntWalk.u8_in (m2 : Int) (by omega)
        have u3 := IntWalk.u8_in (m3 : Int) (by omega)
        have hxa := (Ext.refl wr).alloc_right (.cells #[.slice A1 m2 c1, .slice A2 m2 c2, .slice A3 m3 c3] 69)
        have hna := heap_alloc_new wr (.cells #[.slice A1 m2 c1, .slice A2 m2 c2, .slice A3 m3 c3] 69)
        go_upto_region 9 with fail
        obtain ⟨p, hp⟩ : ∃ p, p = wr.heap.size := ⟨_, rfl⟩
        rw [← hp] at hna
        simp only [← hp]
        clear zb lb y0 y1 y2
        have hOa := (hO.out.up hxa).swap hna (by decide)
        clear hO
        generalize wr.alloc (.cells #[.slice A1 m2 c1, .slice A2 m2 c2, .slice A3 m3 c3] 69) = wa at *
        clear hxa hp
        obtain ⟨z0, z1, z2⟩ := nd3_c hna
        have lp := (Array.getElem?_eq_some_iff.1 hna).1
        clear hna
        have hxb := (Ext.refl wa).alloc_right (.cells #[.int .u8 (m2 : Int), .int .u8 (m3 : Int)] 5)
        obtain ⟨A7, n7, c7, w7, hn7, happ, hO7⟩ := (hOa.up hxb).app (M := [(m2 : Int), (m3 : Int)]) (rd_new2 wa _ _) (by simp [twoL]; have := hPb.out; omega) (by simp)
        replace happ := hid happ
        replace hO7 := hid hO7
        clear hOa hxb
        obtain ⟨y0, y1, y2⟩ := nd3_c hO7.out.2.2.1
        have ly := (Array.getElem?_eq_some_iff.1 hO7.out.2.2.1).1
        go_wp2_with (at_builtin; refine wpList_app rfl _ _ 43 43 rfl _ _ rfl rfl _ happ.out ?_)
        go_wp2_with fail
        clear z0 z1 z2 lp happ u1 u3 hn7 y0 y1 y2 ly
        go_loopw [6, 9] (fun o i wr => ∃ (q : Nat) (A8 : Option Addr) (n8 c8 : Nat), q ≤ m2 ∧ i = .int .i64 q ∧ o = .slice A8 n8 c8 ∧ Hid (OW w2 wr (.slice A8 n8 c8) (twoL n ++ P ++ [(m2 : Int), (m3 : Int)] ++ ((ents x).take q).flatMap kvB) p #[.slice A1 m2 c1, .slice A2 m2 c2, .slice A3 m3 c3] 69)) (fun _ i _ => m2 - (intOf i).toNat)
        case atStart => exact ⟨0, _, _, _, by omega, rfl, rfl, hid (by have := hO7.out; simpa using this)⟩
        case round =>
          clear hO7
          obtain ⟨q, A8, n8, c8, hq, rfl, rfl, hO⟩ := hrel
          obtain ⟨z0, z1, z2⟩ := nd3_c hO.out.2.2.1
          have lp := (Array.getElem?_eq_some_iff.1 hO.out.2.2.1).1
          by_cases hqt : q < m2
          · have hqi : (q : Int) < (m2 : Int) := by omega
            have hxo := hx1.out.trans hO.out.1
            obtain ⟨kad, rfl, zk⟩ := rds_at (r1.out.ext hxo) (k := q) (by rw [hm1.out]; exact hqt)
            obtain ⟨rad, rfl, zr⟩ := RdI.at_ (r2.out) (k := q) (by rw [hm2.out]; exact hqt)
            have het : tth (ents x) q = ⟨sth x.keys q, ith x.recs q⟩ := ents_at (by rw [hm1.out, hm2.out]) (by rw [hm1.out]; exact hqt)
            have hok : (sth x.keys q).size ≤ 100 ∧ 1 ≤ ith x.recs q ∧ ith x.recs q ≤ 300 := by
              have h := okT_is (o4.out (tth (ents x) q) (by rw [tth_get (by rw [hE2.out]; exact hqt)]; exact List.getElem_mem _))
              rw [het] at h
              exact h
            have hKL := hid (show (((ents x).take (q + 1)).flatMap kvB = ((ents x).take q).flatMap kvB ++ kvB ⟨sth x.keys q, ith x.recs q⟩) by rw [flat_snoc (by rw [hE2.out]; exact hqt), ← tth_get (by rw [hE2.out]; exact hqt), het])
            have hQb : Hid ((((ents x).take q).flatMap kvB).length ≤ 412) := by
              have h := flat_lenB (l := (ents x).take q) (F := kvB) (m := 103) (fun y hy => kv_len (o4.out y (List.mem_of_mem_take hy)))
              have h2 : ((ents x).take q).length ≤ 4 := by rw [List.length_take]; omega
              have h3 : ((ents x).take q).length * 103 ≤ 4 * 103 := Nat.mul_le_mul_right _ h2
              show (((ents x).take q).flatMap kvB).length ≤ 412
              omega
            generalize ((ents x).take q).flatMap kvB = Q at *
            have hrr : Hid (nth x.recs q = ith x.recs q) := rfl
            rw [hrr.out] at zr
            generalize hsk : sth x.keys q = s at *
            replace hsk := hid hsk
            generalize ith x.recs q = z at *
            replace hok := hid hok
            obtain ⟨k1, k2, k3⟩ := hok.out
            clear het
            have u1 := IntWalk.u8_in (s.size : Int) (by omega)
            have zr0 := hid zr
            have hk9 : Hid (∀ w', Ext w w' → w'.cell? (kad.add q) = some (.string s)) := fun w' hx => by
              obtain ⟨k', e', zk'⟩ := rds_at (r1.out.ext hx) (k := q) (by rw [hm1.out]; exact hqt)
              injection e' with e'
              subst e'
              rw [zk', hsk.out]
            have hxb := (Ext.refl wr).alloc_right (.cells #[.int .u8 (s.size : Int)] 5)
            obtain ⟨A7, n7, c7, w7, hn7, happ, hO7⟩ := (hO.out.up hxb).app (M := [(s.size : Int)]) (rd_new1 wr _ _) (by simp [twoL]; have := hPb.out; have := hQb.out; omega) (by simp)
            obtain ⟨A9, n9, c9, w9, hn9, happ2, hO9⟩ := hO7.appS s (by simp [twoL]; have := hPb.out; have := hQb.out; omega) (by omega)
            have hTw := hid (rtwo2_any z w9 (by omega))
            have hxt := (Ext.refl w9).alloc_right (.cells #[.int .u8 (z % 256), .int .u8 (z / 256)] 5)
            obtain ⟨A5, n5, c5, w10, hn5, happ3, hO5⟩ := (hO9.up hxt).app (M := twoL z) (rd_new2 w9 _ _) (by simp [twoL, txt_len]; have := hPb.out; have := hQb.out; omega) (by simp [twoL])
            replace happ := hid happ
            replace happ2 := hid happ2
            replace happ3 := hid happ3
            replace hO5 := hid hO5
            obtain ⟨g0, g1, g2⟩ := nd3_c hO7.2.2.1
            have lg := (Array.getElem?_eq_some_iff.1 hO7.2.2.1).1
            have zk7 := hk9.out _ (hx1.out.trans hO7.1)
            obtain ⟨y0, y1, y2⟩ := nd3_c hO9.2.2.1
            have ly := (Array.getElem?_eq_some_iff.1 hO9.2.2.1).1
            have zr := (hx1.out.trans hO9.1).cell zr0.out
            clear hxb hO hxo hxt hO7 hO9
            go_wp2_with (at_builtin; first | (refine wpList_app rfl _ _ 43 43 rfl _ _ rfl rfl _ happ.out ?_) | (refine wpList_app rfl _ _ 43 9 rfl _ _ rfl rfl _ happ2.out ?_))
            refine hTw.out.mono ?_
            rintro e w11 ⟨rfl, rfl⟩
            clear z0 z1 z2 lp zr zk zk7 g0 g1 g2 lg y0 y1 y2 ly happ happ2 u1
            go_wp2_with (at_builtin; refine wpList_app rfl _ _ 43 43 rfl _ _ rfl rfl _ happ3.out ?_)
            have hOe : Hid (OW w2 w10 (.slice A5 n5 c5) (twoL n ++ P ++ [(m2 : Int), (m3 : Int)] ++ ((ents x).take (q + 1)).flatMap kvB) p #[.slice (some kad) m2 c1, .slice (some rad) m2 c2, .slice A3 m3 c3] 69) := by
              have h := hO5.out
              rw [hKL.out]
              refine hid ?_
              show OW _ _ _ (_ ++ (Q ++ ((s.size : Int) :: (txt s ++ twoL z)))) _ _ _
              simpa using h
            clear hTw hO5 hKL happ3
            go_wp2_with fail
            go_roundw
            case rel => exact ⟨q + 1, _, _, _, by omega, by go_num, rfl, hOe⟩
            case measure => simp [intOf]; omega
          · obtain rfl : q = m2 := by omega
            have hKQ : Hid ((ents x).take q = ents x) := List.take_of_length_le (by rw [hE2.out]; exact Nat.le_refl _)
            rw [hKQ.out] at hO
            have hQb : Hid (((ents x).flatMap kvB).length ≤ 412) := by
              have h := flat_lenB (l := ents x) (F := kvB) (m := 103) (fun y hy => kv_len (o4.out y hy))
              have := hE2.out
              show ((ents x).flatMap kvB).length ≤ 412
              omega
            go_wp2_with fail
            clear z0 z1 z2 lp
            go_loopw [6, 10] (fun o i wr => ∃ (j : Nat) (A8 : Option Addr) (n8 c8 : Nat), j ≤ m3 ∧ i = .int .i64 j ∧ o = .slice A8 n8 c8 ∧ Hid (OW w2 wr (.slice A8 n8 c8) (twoL n ++ P ++ [(q : Int), (m3 : Int)] ++ (ents x).flatMap kvB ++ (x.kids.take j).flatMap twoL) p #[.slice A1 q c1, .slice A2 q c2, .slice A3 m3 c3] 69)) (fun _ i _ => m3 - (intOf i).toNat)
            case atStart => exact ⟨0, _, _, _, by omega, rfl, rfl, hid (by have := hO.out; simpa using this)⟩
            case round =>
              clear hO
              obtain ⟨j, A8, n8, c8, hj, rfl, rfl, hO⟩ := hrel
              obtain ⟨z0, z1, z2⟩ := nd3_c hO.out.2.2.1
              have lp := (Array.getElem?_eq_some_iff.1 hO.out.2.2.1).1
              by_cases hjt : j < m3
              · have hji : (j : Int) < (m3 : Int) := by omega
                obtain ⟨dad, rfl, zd⟩ := RdI.at_ (r3.out.ext (hx1.out.trans hO.out.1)) (k := j) (by rw [hm3.out]; exact hjt)
                have hzz : nth x.kids j = x.kids[j]'(by rw [hm3.out]; exact hjt) := nth_lt (by rw [hm3.out]; exact hjt)
                have hDL := hid (show ((x.kids.take (j + 1)).flatMap twoL = (x.kids.take j).flatMap twoL ++ twoL (nth x.kids j)) by rw [flat_snoc (by rw [hm3.out]; exact hjt), hzz])
                have hz5 : 0 ≤ nth x.kids j ∧ nth x.kids j ≤ 65535 := by rw [hzz]; exact o5.out _ (List.getElem_mem _)
                have hDb : Hid (((x.kids.take j).flatMap twoL).length ≤ 10) := by
                  have h := flat_lenB (l := x.kids.take j) (F := twoL) (m := 2) (fun y hy => Nat.le_refl _)
                  have h2 : (x.kids.take j).length ≤ 5 := by rw [List.length_take]; omega
                  show ((x.kids.take j).flatMap twoL).length ≤ 10
                  omega
                clear hzz
                generalize (x.kids.take j).flatMap twoL = D at *
                generalize (ents x).flatMap kvB = Q at *
                generalize nth x.kids j = z at *
                have hTw := hid (rtwo2_any z wr hz5)
                have hxt := (Ext.refl wr).alloc_right (.cells #[.int .u8 (z % 256), .int .u8 (z / 256)] 5)
                obtain ⟨A5, n5, c5, w10, hn5, happ3, hO5⟩ := (hO.out.up hxt).app (M := twoL z) (rd_new2 wr _ _) (by simp [twoL]; have := hPb.out; have := hQb.out; have := hDb.out; omega) (by simp [twoL])
                replace happ3 := hid happ3
                replace hO5 := hid hO5
                clear hO hxt
                go_wp2_with fail
                refine hTw.out.mono ?_
                rintro e w11 ⟨rfl, rfl⟩
                clear z0 z1 z2 lp zd
                go_wp2_with (at_builtin; refine wpList_app rfl _ _ 43 43 rfl _ _ rfl rfl _ happ3.out ?_)
                have hOe : Hid (OW w2 w10 (.slice A5 n5 c5) (twoL n ++ P ++ [(q : Int), (m3 : Int)] ++ Q ++ (x.kids.take (j + 1)).flatMap twoL) p #[.slice A1 q c1, .slice A2 q c2, .slice (some dad) m3 c3] 69) := by
                  have h := hO5.out
                  rw [hDL.out]
                  refine hid ?_
                  simpa using h
                clear hTw hO5 hDL happ3
                go_wp2_with fail
                go_roundw
                case rel => exact ⟨j + 1, _, _, _, by omega, by go_num, rfl, hOe⟩
                case measure => simp [intOf]; omega
              · obtain rfl : j = m3 := by omega
                have hfin : Hid (twoL n ++ P ++ [(q : Int), (j : Int)] ++ (ents x).flatMap kvB ++ (x.kids.take j).flatMap twoL = twoL n ++ (xs.take (k + 1)).flatMap ndB) := by
                  rw [show x.kids.take j = x.kids from List.take_of_length_le (by rw [hm3.out]; exact Nat.le_refl _), hPL.out]
                  show _ = twoL n ++ (P ++ ((x.keys.length : Int) :: (x.kids.length : Int) :: ((ents x).flatMap kvB ++ x.kids.flatMap twoL)))
                  rw [hm1.out, hm3.out]
                  simp
                rw [hfin.out] at hO
                have hOb := hid (hO.out.swap (hcell2.out _ hO.out.1).2.2 (by decide))
                clear hO hPL hfin
                go_wp2_with fail
                go_roundw
                case rel => exact ⟨k + 1, _, _, _, by omega, by go_num, rfl, hOb⟩
                case measure => simp [intOf]; omega
      · obtain rfl : k = n := by omega
        have hall : Hid (twoL k ++ (xs.take k).flatMap ndB = bytesX xs) := by
          rw [show xs.take k = xs from List.take_of_length_le (by rw [hn.out]; exact Nat.le_refl _)]
          unfold Hid bytesX
          rw [hn.out]
        rw [hall.out] at hO
        obtain ⟨A9, c9, e9, hrd⟩ := hO.out.rd hisB.out
        injection e9 with e9 e8 e7
        subst e9 e8 e7
        have hfin : Hid (GiveBy xs w (.returned (.tuple #[.slice A6 (bytesX xs).length c6, .int .i64 0])) wr) := by
          refine ⟨A6, (bytesX xs).length, c6, ?_, ?_, hx1.out.trans hO.out.1⟩
          · rw [hE.out.2]
          · rw [hE.out.1]; exact hrd
        generalize (bytesX xs).length = N9 at *
        clear hO hrd
        go_wp2
        go_ret2
        exact hfin.out
  · have hE : Hid (bysX xs = [] ∧ chkE xs = 11) := ⟨if_neg h0, if_neg h0⟩
    rw [hE.out.2] at hck
    have hfin : Hid (∀ w', Ext w w' → GiveBy xs w (.returned (.tuple #[.slice none 0 0, .int .i64 11])) w') := fun w' hx => by
      refine ⟨none, 0, 0, ?_, ?_, hx⟩
      · rw [hE.out.2]
      · rw [hE.out.1]; exact ⟨Rd.none_ _ 1, isB_nil⟩
    clear h0
    go_enter Try.func23, Try.ntmps23
    go_upto_region 1 with fail
    have zb : (w.alloc (.cells #[.slice A n c] 37)).cell? ⟨w.heap.size, 0, none⟩ = some (.slice A n c) := by rw [Lib.cell_of_heap hb0]; rfl
    have lb := (Array.getElem?_eq_some_iff.1 hb0).1
    clear hb0
    go_wp2_with fail
    refine (hck.out _ hx1.out).mono ?_
    rintro e w2 ⟨rfl, hx2⟩
    go_wp2
    go_ret2
    exact hfin.out _ (hx1.out.trans hx2)
end Go.Proofs.Ytpijfiaecicpfaa
