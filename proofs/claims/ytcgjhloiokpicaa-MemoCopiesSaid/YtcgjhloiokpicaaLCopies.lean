/-
  MemoCopies: the walk of the law.
-/
import Derived.Test.YtcgjhloiokpicaaQw
namespace Go.Proofs.Ytcgjhloiokpicaa
open Go.RowKit Go.MuLone Go.Shelf
set_option linter.unusedVariables false
set_option linter.unusedSimpArgs false
section
variable {P : Program} {ops : Array Oper} {Q : Exit → Act → World → Prop} {md : Region.Mode} {S S' : World → Prop} {last : Nat}
/-- What is asked of the world may be made more on the way. -/
theorem J_strong (hS : ∀ w, S' w → S w) : ∀ {fuel : Nat} {listed : Array Bool} {a : Act} {w : World}, wpAnyJ P md ops Q S' last fuel listed a w → wpAnyJ P md ops Q S last fuel listed a w
  | 0, _, _, _, h => h
  | fuel + 1, _, _, _, h => ⟨h.1, fun i hi => wpOp_mono (fun a' w' h' => ⟨fun hn => hS _ (h'.1 hn), J_strong hS h'.2⟩) (h.2 i hi)⟩
end
theorem good_nil (size : Int) : Good size [] := ⟨1, ⟨rfl, rfl⟩, by decide⟩
theorem Duo.noK {KK : Nat → Prop} {wf w0 w : World} {g r : Nat} {size : Int} {l : List En} {v vr : Value} (h : Duo KK wf w0 w g r size l v vr) : Duo (fun _ => False) w0 w0 w g r size l v vr := ⟨h.ma, h.ra, h.ap, h.ex, h.fg, h.fv, h.fr, h.fw, fun _ hk => hk.elim⟩
/-- The two files and their copies. -/
structure All (w w' : World) (g r gc ro : Nat) (size : Int) (l l1 : List En) (v vr vc vo : Value) : Prop where
  du : Duo (fun _ => False) w w w' g r size l v vr
  mc : MA 0 w' gc size vc l1
  rr : RA w' ro size vo l1
  ac : Apart gc vc ro vo
  ag : Apart gc vc g v
  ao : Apart g v ro vo
  fc : w.heap.size ≤ gc
  gv : ∀ k, vc.ownBlock = some k → w.heap.size ≤ k
theorem All.ext {w w' w2 : World} {g r gc ro : Nat} {size : Int} {l l1 : List En} {v vr vc vo : Value} (h : All w w' g r gc ro size l l1 v vr vc vo) (hx : Ext w' w2) : All w w2 g r gc ro size l l1 v vr vc vo := ⟨h.du.ext hx, h.mc.ext hx, h.rr.ext hx, h.ac, h.ag, h.ao, h.fc, h.gv⟩
set_option maxRecDepth 100000 in
set_option maxHeartbeats 4000000 in
theorem copies_law (size : Int) (A : Option Addr) (n c : Nat) (k0 : List Ac) (B : Option Addr) (m d : Nat) (l : List Ac) (w : World) (_ : (Lit.int IntKind.i64 size).wf = true) (h : RdA w A n c k0) (h2 : RdA w B m d l) : Calls Try.prog 7 #[.int .i64 size, .slice A n c, .slice B m d] w (Give (.bool true) w) := by
  have hO := hid (over_any A n c k0 w h)
  have hO2 := hid (fun w' (hx : Ext w w') => over_any B m d l w' (h2.ext hx))
  have hmx := Rd.max h.1
  have hmx2 := Rd.max h2.1
  replace h := hid h
  replace h2 := hid h2
  have hnew := hid (fun w => New_any size w)
  have hrnew := hid (fun w => rNew_any size w)
  go_enter Try.func7, Try.ntmps7
  go_wp2_with fail
  refine hO.out.mono ?_
  rintro e w0 ⟨b, rfl, hb, hx0⟩
  replace hb := hid hb
  replace hx0 := hid hx0
  clear hO
  cases b with
  | true =>
    go_wp2_with fail
    refine (known_any _).mono ?_
    rintro e wk ⟨rfl, hx⟩
    go_wp2
    go_ret
    exact ⟨rfl, hx0.out.trans hx⟩
  | false =>
    have hn4 := hb.out rfl
    go_wp2_with fail
    refine (hO2.out _ hx0.out).mono ?_
    rintro e w1 ⟨b2, rfl, hb2, hx1⟩
    replace hb2 := hid hb2
    replace hx1 := hid (hx0.out.trans hx1)
    clear hO2
    cases b2 with
    | true =>
      go_wp2_with fail
      refine (known_any _).mono ?_
      rintro e wk ⟨rfl, hx⟩
      go_wp2
      go_ret
      exact ⟨rfl, hx1.out.trans hx⟩
    | false =>
      have hm4 := hb2.out rfl
      clear hb hb2 hx0
      go_wp2_with fail
      refine (hnew.out _).mono ?_
      rintro e w2 (⟨hb1, rfl, rfl⟩ | ⟨hb1, rfl, hm, hx⟩)
      · replace hb1 := hid hb1
        go_wp2_with fail
        refine (hrnew.out _).mono ?_
        rintro e w3 (⟨hb2, rfl, rfl⟩ | ⟨hb2, rfl, hm, hx⟩)
        · clear hb2
          go_wp2_with fail
          refine (known_any _).mono ?_
          rintro e wk ⟨rfl, hx⟩
          go_wp2
          go_ret
          exact ⟨rfl, hx1.out.trans hx⟩
        · rw [hb1.out] at hb2
          cases hb2
      · replace hb1 := hid hb1
        replace hm := hid hm
        have hx2 := hid (hx1.out.trans hx)
        have hg1 := hid hx1.out.size
        have lg := hm.out.lt
        generalize w1.heap.size = g at *
        clear hx
        go_wp2_with fail
        refine (hrnew.out _).mono ?_
        rintro e w3 (⟨hb2, rfl, rfl⟩ | ⟨hb2, rfl, hr, hx⟩)
        · rw [hb1.out] at hb2
          cases hb2
        · have hs := sz_bd hb2
          have hd : Hid (Duo (fun _ => False) w w w3 g w2.heap.size size [] (.slice none 0 0) (.slice none 0 0)) := ⟨hm.out.ext hx, hr, ⟨by omega, fun e => (by cases e), fun e => (by cases e), fun k e => (by cases e)⟩, hx2.out.trans hx, hg1.out, fun k e => (by cases e), hx2.out.size, fun k e => (by cases e), fun k hk => hk.elim⟩
          generalize w2.heap.size = r at *
          clear hr hx hm hb1 hb2 hnew hrnew hx1 hx2 lg hg1
          go_wp2_with fail
          go_loopw [11] (fun i wr => ∃ (k : Nat) (l' : List En), k ≤ n ∧ i = .int .i64 k ∧ Hid (Good size l') ∧ Hid (Duos (fun _ => False) w w wr g r size l')) (fun i _ => n - (intOf i).toNat)
          case atStart => exact ⟨0, [], by omega, rfl, (good_nil size), hd.out.any⟩
          case round =>
            clear hd
            obtain ⟨k, l', hk, rfl, hG, v, vr, hd⟩ := hrel
            replace hd := hid hd
            by_cases hlt : k < n
            · obtain ⟨ad, x, rfl, -, hok, c0, c1, c2, c3, c4, c5⟩ := (h.out.ext hd.out.ex).at_ hlt
              have hPl := hid (played_any (fun _ => False) w w size g r v vr l' x wr hd.out hG.out hs hok)
              obtain ⟨xo, xa, xb, xc, xs, xt⟩ := x
              dsimp only at c0 c1 c2 c3 c4 c5 hPl
              have hkk : (k : Int) < (n : Int) := by omega
              clear hok hd
              go_wp2_with fail
              refine hPl.out.mono ?_
              rintro e w5 ⟨rfl, l2, hG2, hd5⟩
              replace hG2 := hid hG2
              replace hd5 := hid hd5
              clear hPl c0 c1 c2 c3 c4 c5
              go_wp2_with fail
              go_roundw
              case rel => exact ⟨k + 1, l2, by omega, by go_num, hG2, hd5⟩
              case measure => simp [intOf]; omega
            · obtain rfl : k = n := by omega
              have hkn : ¬ (k : Int) < (k : Int) := by omega
              have hll := (good_facts hG.out).1
              go_wp2_with fail
              refine (Copy_any size g v l' wr hd.out.ma (by omega)).mono ?_
              rintro e w2 ⟨gc, vc, rfl, mc2, mg2, t2, hgc, hvc⟩
              have hd2 := hid (hd.out.leftS mg2 t2)
              have hws := hd.out.ex.size
              have hgw := hd.out.ma.lt
              have hrw := hd.out.ra.lt
              have hvo := hid hd.out.ma.ownlt
              have hvro := hid hd.out.ra.ownlt
              have hv3 : Hid (v.ownBlock ≠ some gc ∧ ∀ j, v.ownBlock = some j → vc.ownBlock ≠ some j) := ⟨fun e => by have := hvo.out _ e; omega, fun j e e2 => by have := hvo.out j e; have := hvc j e2; omega⟩
              replace mc2 := hid mc2
              have hgc2 : gc < w2.heap.size := mc2.out.lt
              have hvc2 := hid mc2.out.ownlt
              replace hvc := hid hvc
              have hdsz := t2.size
              clear mg2 t2 hd
              go_wp2_with fail
              refine (rCopy_any size r vr l' w2 hd2.out.ra (by omega)).mono ?_
              rintro e w3 ⟨ro, vo, rfl, mr3, hx3, hro2, hvo2⟩
              have hd3 := hid (hd2.out.ext hx3)
              have mc3 := hid (mc2.out.ext hx3)
              have hap : Hid (Apart gc vc g v) := ⟨by omega, fun e => by have := hvc.out _ e; omega, fun e => hv3.out.1 e, fun j e e2 => hv3.out.2 j e2 e⟩
              have hac : Hid (Apart gc vc ro vo) := ⟨by omega, fun e => by have := hvc2.out _ e; omega, fun e => by have := hvo2 _ e; omega, fun j e e2 => by have := hvc2.out j e; have := hvo2 j e2; omega⟩
              have hfc : Hid (w.heap.size ≤ gc) := by unfold Hid; omega
              have hfv : Hid (∀ j, vc.ownBlock = some j → w.heap.size ≤ j) := fun j e => Nat.le_trans hws (hvc.out j e)
              have hao : Hid (Apart g v ro vo) := ⟨by omega, fun e => by have := hvo.out _ e; omega, fun e => by have := hvo2 _ e; omega, fun j e e2 => by have := hvo.out j e; have := hvo2 j e2; omega⟩
              have har : Hid (gc ≠ r ∧ vr.ownBlock ≠ some gc ∧ vc.ownBlock ≠ some r ∧ ∀ j, vc.ownBlock = some j → vr.ownBlock ≠ some j) := ⟨by omega, fun e => by have := hvro.out _ e; omega, fun e => by have := hvc.out _ e; omega, fun j e e2 => by have := hvc.out j e; have := hvro.out j e2; omega⟩
              have hor : Hid (ro ≠ r ∧ vr.ownBlock ≠ some ro ∧ vo.ownBlock ≠ some r ∧ ∀ j, vo.ownBlock = some j → vr.ownBlock ≠ some j) := ⟨by omega, fun e => by have := hvro.out _ e; omega, fun e => by have := hvo2 _ e; omega, fun j e e2 => by have := hvo2 j e; have := hvro.out j e2; omega⟩
              replace mr3 := hid mr3
              have hSm := hid (Same2_any size size gc g vc v l' l' w3 mc3.out hd3.out.ma hG.out hG.out hs hs hap.out)
              rw [(eqB_iff (isB_file _ _) (isB_file _ _)).2 rfl] at hSm
              clear hd2 mc2 mc3 hx3 hvo2 hvc hvc2 hro2 hv3 hvo hvro hgc
              go_wp2_with fail
              refine hSm.out.mono ?_
              rintro e w4 ⟨rfl, mc4, mg4, wx, t1, t2⟩
              have h1 := (hd3.out.ra)
              have hra4 := t2.ra (t1.ra h1 ⟨har.out.1, har.out.2.2.1, har.out.2.1, har.out.2.2.2⟩) hd3.out.ap
              have hro4 := t2.ra (t1.ra mr3.out hac.out) hao.out
              have hex4 := t2.extF (t1.extF hd3.out.ex hfc.out hfv.out) hd3.out.fg hd3.out.fv
              have hd4 : Hid (Duo (fun j => j = gc ∨ vc.ownBlock = some j ∨ j = ro ∨ vo.ownBlock = some j) w4 w w4 g r size l' v vr) := ⟨mg4, hra4, hd3.out.ap, hex4, hd3.out.fg, hd3.out.fv, hd3.out.fr, hd3.out.fw, fun j hj => by
                rcases hj with rfl | hj | rfl | hj
                · exact ⟨mc4.lt, rfl, hap.out.1, har.out.1, hap.out.2.2.1, har.out.2.1⟩
                · exact ⟨mc4.ownlt j hj, rfl, fun e => hap.out.2.1 (e ▸ hj), fun e => har.out.2.2.1 (e ▸ hj), hap.out.2.2.2 j hj, har.out.2.2.2 j hj⟩
                · exact ⟨hro4.lt, rfl, hao.out.1.symm, hor.out.1, hao.out.2.1, hor.out.2.1⟩
                · exact ⟨hro4.ownlt j hj, rfl, fun e => hao.out.2.2.1 (e ▸ hj), fun e => hor.out.2.2.1 (e ▸ hj), fun e => hao.out.2.2.2 j e hj, hor.out.2.2.2 j hj⟩⟩
              have hmc := hid mc4
              have hro := hid hro4
              have hG1 := hG
              clear mc4 mg4 t1 t2 h1 hra4 hro4 hex4 hd3 mr3 hSm hap hao har hor
              generalize l' = l1 at *
              go_wp2_with fail
              go_loopw [14] (fun i wr => ∃ (k : Nat) (l' : List En), k ≤ m ∧ i = .int .i64 k ∧ Hid (Good size l') ∧ Hid (Duos (fun j => j = gc ∨ vc.ownBlock = some j ∨ j = ro ∨ vo.ownBlock = some j) w4 w wr g r size l')) (fun i _ => m - (intOf i).toNat)
              case atStart => exact ⟨0, l1, by omega, rfl, hG1, hd4.out.any⟩
              case round =>
                clear hd4
                obtain ⟨k, l', hk, rfl, hG, v, vr, hd⟩ := hrel
                replace hd := hid hd
                by_cases hlt : k < m
                · obtain ⟨ad, x, rfl, -, hok, c0, c1, c2, c3, c4, c5⟩ := (h2.out.ext hd.out.ex).at_ hlt
                  have hPl := hid (played_any (fun j => j = gc ∨ vc.ownBlock = some j ∨ j = ro ∨ vo.ownBlock = some j) w4 w size g r v vr l' x wr hd.out hG.out hs hok)
                  obtain ⟨xo, xa, xb, xc, xs, xt⟩ := x
                  dsimp only at c0 c1 c2 c3 c4 c5 hPl
                  have hkk : (k : Int) < (m : Int) := by omega
                  clear hok hd
                  go_wp2_with fail
                  refine hPl.out.mono ?_
                  rintro e w5 ⟨rfl, l2, hG2, hd5⟩
                  replace hG2 := hid hG2
                  replace hd5 := hid hd5
                  clear hPl c0 c1 c2 c3 c4 c5
                  go_wp2_with fail
                  go_roundw
                  case rel => exact ⟨k + 1, l2, by omega, by go_num, hG2, hd5⟩
                  case measure => simp [intOf]; omega
                · obtain rfl : k = m := by omega
                  have hkn : ¬ (k : Int) < (k : Int) := by omega
                  have kM := hd.out.keepM hmc.out (.inl rfl) (fun j e => .inr (.inl e))
                  have kR := hd.out.keepR hro.out (.inr (.inr (.inl rfl))) (fun j e => .inr (.inr (.inr e)))
                  have a0 : Hid (All w wr g r gc ro size l' l1 v vr vc vo) := ⟨hd.out.noK, kM, kR, hac.out,
                    ⟨(hd.out.kp gc (.inl rfl)).2.2.1, fun e => (hd.out.kp g (.inr (.inl e))).2.2.1 rfl, fun e => (hd.out.kp gc (.inl rfl)).2.2.2.2.1 e, fun j e e2 => (hd.out.kp j (.inr (.inl e))).2.2.2.2.1 e2⟩,
                    ⟨(hd.out.kp ro (.inr (.inr (.inl rfl)))).2.2.1.symm, fun e => (hd.out.kp ro (.inr (.inr (.inl rfl)))).2.2.2.2.1 e, fun e => (hd.out.kp g (.inr (.inr (.inr e)))).2.2.1 rfl, fun j e e2 => (hd.out.kp j (.inr (.inr (.inr e2)))).2.2.2.2.1 e⟩, hfc.out, hfv.out⟩
                  clear kM kR hmc hro hac hfc hfv hd
                  go_upto_region 20 with fail
                  have I0 : Ext w wr.drew := a0.out.du.ex.drew_right
                  have a4 := hid (a0.out.ext (Ext.refl wr).drew_right)
                  refine region_J (fun w' => Ext w w') 8 (by kernel_rfl) ?_
                  generalize wr.drew = w4 at *
                  clear a0
                  refine J_takeO 0 (v := ?va0) rfl (by kernel_rfl) (by kernel_rfl) (by kernel_rfl) (by kernel_rfl) (fun _ _ _ h => h) (Or.inl ⟨by rfl, ?ya0⟩) I0 ?ra0
                  case ya0 => (intro w hSw; (go_simp; with_reducible rfl))
                  simp only [Act.put, List.getElem_toArray, List.getElem_cons_zero, List.getElem_cons_succ, List.setIfInBounds_toArray, List.set_cons_zero, List.set_cons_succ]
                  refine J_takeO 3 (v := ?va3) rfl (by kernel_rfl) (by kernel_rfl) (by kernel_rfl) (by kernel_rfl) (fun _ _ _ h => h) (Or.inl ⟨by rfl, ?ya3⟩) I0 ?ra3
                  case ya3 => (intro w hSw; (go_simp; with_reducible rfl))
                  simp only [Act.put, List.getElem_toArray, List.getElem_cons_zero, List.getElem_cons_succ, List.setIfInBounds_toArray, List.set_cons_zero, List.set_cons_succ]
                  refine J_one 1 rfl (by kernel_rfl) (fun K hK => ?_)
                  go_simp
                  refine (rBytes_any size ro vo l1 w4 a4.out.rr hG1.out hs.1 hs.2).mono ?_
                  rintro e w5 ⟨v5, rfl, o5, hx5⟩
                  have a5 := hid (a4.out.ext hx5)
                  have I5x : Ext w w5 := a5.out.du.ex
                  clear a4 hx5
                  generalize w4.heap.size = B5 at *
                  generalize (fileB size l1).length = n5 at *
                  obtain ⟨A5, c5, rfl, -⟩ := own_form o5
                  have hBr := hid (fun w (h : RA w r size vr l') => rBytes_any size r vr l' w h hG.out hs.1 hs.2)
                  generalize hF1 : fileB size l1 = F1 at *
                  generalize hF2 : fileB size l' = F2 at *
                  replace hF1 := hid hF1
                  replace hF2 := hid hF2
                  have I5 : (fun w' : World => Ext w w' ∧ w'.ownsRow B5 5 1 (.slice A5 n5 c5) n5 (bys F1)) w5 := ⟨I5x, o5⟩
                  refine hK _ _ ⟨fun _ => I5x, ?_⟩
                  clear hK K
                  try simp only [Act.put, List.getElem_toArray, List.getElem_cons_zero, List.getElem_cons_succ, List.setIfInBounds_toArray, List.set_cons_zero, List.set_cons_succ]
                  refine J_strong (S' := (fun w' : World => Ext w w' ∧ w'.ownsRow B5 5 1 (.slice A5 n5 c5) n5 (bys F1))) (fun w h => h.1) ?_
                  refine J_takeO 2 (v := ?va2) rfl (by kernel_rfl) (by kernel_rfl) (by kernel_rfl) (by kernel_rfl) (fun _ _ _ h => h) (Or.inl ⟨by rfl, ?ya2⟩) I5 ?ra2
                  case ya2 => (intro w hSw; (have hcv := conv_own hSw.2; go_simp; with_reducible rfl))
                  simp only [Act.put, List.getElem_toArray, List.getElem_cons_zero, List.getElem_cons_succ, List.setIfInBounds_toArray, List.set_cons_zero, List.set_cons_succ]
                  refine J_one 4 rfl (by kernel_rfl) (fun K hK => ?_)
                  go_simp
                  refine (hBr.out _ a5.out.du.ra).mono ?_
                  rintro e w6 ⟨v6, rfl, o6, hx6⟩
                  have a6 := hid (a5.out.ext hx6)
                  have I6 : (fun w' : World => Ext w w' ∧ w'.ownsRow B5 5 1 (.slice A5 n5 c5) n5 (bys F1)) w6 := ⟨a6.out.du.ex, hx6.own I5.2⟩
                  have hcv := conv_own o6
                  obtain ⟨A6, c6, rfl, -⟩ := own_form o6
                  clear a5 hx6 I5 I5x hBr o6 o5
                  refine hK _ _ ⟨fun _ => I6, ?_⟩
                  clear hK K
                  try simp only [Act.put, List.getElem_toArray, List.getElem_cons_zero, List.getElem_cons_succ, List.setIfInBounds_toArray, List.set_cons_zero, List.set_cons_succ]
                  refine J_one 5 rfl (by kernel_rfl) (fun K hK => ?_)
                  go_simp
                  refine hK _ _ ⟨fun _ => I6, ?_⟩
                  clear hK K
                  try simp only [Act.put, List.setIfInBounds_toArray, List.set_cons_zero, List.set_cons_succ]
                  clear hcv
                  refine J_one 6 rfl (by kernel_rfl) (fun K hK => ?_)
                  go_simp
                  refine hK _ _ ⟨fun _ => I6, ?_⟩
                  clear hK K
                  try simp only [Act.put, List.getElem_toArray, List.getElem_cons_zero, List.getElem_cons_succ, List.setIfInBounds_toArray, List.set_cons_zero, List.set_cons_succ]
                  have hq : Hid (((strI F1).toList == (strI F2).toList) = eqB F1 F2) := rfl
                  try rw [hq.out]
                  generalize heq : eqB F1 F2 = q at *
                  replace heq := hid heq
                  clear hq
                  refine J_one 7 rfl (by kernel_rfl) (fun K hK => ?_)
                  go_simp
                  refine hK _ _ ⟨fun _ => I6, ?_⟩
                  clear hK K
                  try simp only [Act.put, List.setIfInBounds_toArray, List.set_cons_zero, List.set_cons_succ]
                  refine J_done (by kernel_rfl) (OnlyOn.normal ?_)
                  clear I6
                  go_upto_region 21 with fail
                  have I0 : Ext w w6.drew := a6.out.du.ex.drew_right
                  replace a6 := hid (a6.out.ext (Ext.refl w6).drew_right)
                  refine region_J (fun w' => Ext w w') 18 (by kernel_rfl) ?_
                  generalize w6.drew = w6 at *
                  refine J_takeO 0 (v := ?vb0) rfl (by kernel_rfl) (by kernel_rfl) (by kernel_rfl) (by kernel_rfl) (fun _ _ _ h => h) (Or.inl ⟨by rfl, ?yb0⟩) I0 ?rb0
                  case yb0 => (intro w hSw; (go_simp; with_reducible rfl))
                  simp only [Act.put, List.getElem_toArray, List.getElem_cons_zero, List.getElem_cons_succ, List.setIfInBounds_toArray, List.set_cons_zero, List.set_cons_succ]
                  refine J_takeO 1 (v := ?vb1) rfl (by kernel_rfl) (by kernel_rfl) (by kernel_rfl) (by kernel_rfl) (fun _ _ _ h => h) (Or.inl ⟨by rfl, ?yb1⟩) I0 ?rb1
                  case yb1 => (intro w hSw; (go_simp; with_reducible rfl))
                  simp only [Act.put, List.getElem_toArray, List.getElem_cons_zero, List.getElem_cons_succ, List.setIfInBounds_toArray, List.set_cons_zero, List.set_cons_succ]
                  refine J_takeO 3 (v := ?vb3) rfl (by kernel_rfl) (by kernel_rfl) (by kernel_rfl) (by kernel_rfl) (fun _ _ _ h => h) (Or.inl ⟨by rfl, ?yb3⟩) I0 ?rb3
                  case yb3 => (intro w hSw; (go_simp; with_reducible rfl))
                  simp only [Act.put, List.getElem_toArray, List.getElem_cons_zero, List.getElem_cons_succ, List.setIfInBounds_toArray, List.set_cons_zero, List.set_cons_succ]
                  refine J_one 2 rfl (by kernel_rfl) (fun K hK => ?_)
                  go_simp
                  refine (Same2_any size size gc g vc v l1 l' w6 a6.out.mc a6.out.du.ma hG1.out hG.out hs hs a6.out.ag).mono ?_
                  rintro e w7 ⟨rfl, mc7, mg7, wx, t1, t2⟩
                  rw [hF1.out, hF2.out, heq.out]
                  have I7 : Ext w w7 := t2.extF (t1.extF a6.out.du.ex a6.out.fc a6.out.gv) a6.out.du.fg a6.out.du.fv
                  have ro7 := hid (t2.ra (t1.ra a6.out.rr a6.out.ac) a6.out.ao)
                  have hcc := hid a6.out.ac
                  have hfc := hid a6.out.fc
                  have hgv := hid a6.out.gv
                  replace mc7 := hid mc7
                  clear mg7 t1 t2 a6
                  refine hK _ _ ⟨fun _ => I7, ?_⟩
                  clear hK K
                  try simp only [Act.put, List.getElem_toArray, List.getElem_cons_zero, List.getElem_cons_succ, List.setIfInBounds_toArray, List.set_cons_zero, List.set_cons_succ]
                  refine J_one 4 rfl (by kernel_rfl) (fun K hK => ?_)
                  go_simp
                  refine hK _ _ ⟨fun _ => I7, ?_⟩
                  clear hK K
                  try simp only [Act.put, List.setIfInBounds_toArray, List.set_cons_zero, List.set_cons_succ]
                  refine J_one 5 rfl (by kernel_rfl) (fun K hK => ?_)
                  go_simp
                  refine hK _ _ ⟨fun _ => I7, ?_⟩
                  clear hK K
                  try simp only [Act.put, List.setIfInBounds_toArray, List.set_cons_zero, List.set_cons_succ]
                  refine J_takeO 6 (v := ?vb6) rfl (by kernel_rfl) (by kernel_rfl) (by kernel_rfl) (by kernel_rfl) (fun _ _ _ h => h) (Or.inl ⟨by rfl, ?yb6⟩) I7 ?rb6
                  case yb6 => (intro w hSw; (go_simp; with_reducible rfl))
                  simp only [Act.put, List.getElem_toArray, List.getElem_cons_zero, List.getElem_cons_succ, List.setIfInBounds_toArray, List.set_cons_zero, List.set_cons_succ]
                  refine J_takeO 9 (v := ?vb9) rfl (by kernel_rfl) (by kernel_rfl) (by kernel_rfl) (by kernel_rfl) (fun _ _ _ h => h) (Or.inl ⟨by rfl, ?yb9⟩) I7 ?rb9
                  case yb9 => (intro w hSw; (go_simp; with_reducible rfl))
                  simp only [Act.put, List.getElem_toArray, List.getElem_cons_zero, List.getElem_cons_succ, List.setIfInBounds_toArray, List.set_cons_zero, List.set_cons_succ]
                  refine J_one 7 rfl (by kernel_rfl) (fun K hK => ?_)
                  go_simp
                  refine (Bytes_any size gc vc l1 w7 mc7.out hG1.out hs.1 hs.2).mono ?_
                  rintro e w8 ⟨v8, rfl, o8, mc8, t8⟩
                  have I8x : Ext w w8 := t8.extF I7 hfc.out hgv.out
                  have ro8 := hid (t8.ra ro7.out hcc.out)
                  clear mc8 t8 mc7 ro7 I7
                  rw [hF1.out] at o8
                  generalize w7.heap.size = B8 at *
                  generalize F1.length = n8 at *
                  obtain ⟨A8, c8, rfl, -⟩ := own_form o8
                  have I8 : (fun w' : World => Ext w w' ∧ w'.ownsRow B8 5 1 (.slice A8 n8 c8) n8 (bys F1)) w8 := ⟨I8x, o8⟩
                  refine hK _ _ ⟨fun _ => I8x, ?_⟩
                  clear hK K
                  try simp only [Act.put, List.getElem_toArray, List.getElem_cons_zero, List.getElem_cons_succ, List.setIfInBounds_toArray, List.set_cons_zero, List.set_cons_succ]
                  refine J_strong (S' := (fun w' : World => Ext w w' ∧ w'.ownsRow B8 5 1 (.slice A8 n8 c8) n8 (bys F1))) (fun w h => h.1) ?_
                  refine J_takeO 8 (v := ?vb8) rfl (by kernel_rfl) (by kernel_rfl) (by kernel_rfl) (by kernel_rfl) (fun _ _ _ h => h) (Or.inl ⟨by rfl, ?yb8⟩) I8 ?rb8
                  case yb8 => (intro w hSw; (have hcv := conv_own hSw.2; go_simp; with_reducible rfl))
                  simp only [Act.put, List.getElem_toArray, List.getElem_cons_zero, List.getElem_cons_succ, List.setIfInBounds_toArray, List.set_cons_zero, List.set_cons_succ]
                  refine J_one 10 rfl (by kernel_rfl) (fun K hK => ?_)
                  go_simp
                  refine (rBytes_any size ro vo l1 w8 ro8.out hG1.out hs.1 hs.2).mono ?_
                  rintro e w9 ⟨v9, rfl, o9, hx9⟩
                  rw [hF1.out] at o9
                  have I9 : (fun w' : World => Ext w w' ∧ w'.ownsRow B8 5 1 (.slice A8 n8 c8) n8 (bys F1)) w9 := ⟨I8.1.trans hx9, hx9.own I8.2⟩
                  have hcv := conv_own o9
                  obtain ⟨A9, c9, rfl, -⟩ := own_form o9
                  clear hx9 I8 I8x o9 o8
                  refine hK _ _ ⟨fun _ => I9, ?_⟩
                  clear hK K
                  try simp only [Act.put, List.getElem_toArray, List.getElem_cons_zero, List.getElem_cons_succ, List.setIfInBounds_toArray, List.set_cons_zero, List.set_cons_succ]
                  refine J_one 11 rfl (by kernel_rfl) (fun K hK => ?_)
                  go_simp
                  refine hK _ _ ⟨fun _ => I9, ?_⟩
                  clear hK K
                  try simp only [Act.put, List.setIfInBounds_toArray, List.set_cons_zero, List.set_cons_succ]
                  clear hcv
                  generalize strI F1 = sF at *
                  refine J_one 12 rfl (by kernel_rfl) (fun K hK => ?_)
                  go_simp
                  refine hK _ _ ⟨fun _ => I9, ?_⟩
                  clear hK K
                  try simp only [Act.put, List.setIfInBounds_toArray, List.set_cons_zero, List.set_cons_succ]
                  refine J_one 13 rfl (by kernel_rfl) (fun K hK => ?_)
                  go_simp
                  refine hK _ _ ⟨fun _ => I9, ?_⟩
                  clear hK K
                  try simp only [Act.put, List.setIfInBounds_toArray, List.set_cons_zero, List.set_cons_succ]
                  refine J_one 14 rfl (by kernel_rfl) (fun K hK => ?_)
                  go_simp
                  refine hK _ _ ⟨fun _ => I9, ?_⟩
                  clear hK K
                  try simp only [Act.put, List.setIfInBounds_toArray, List.set_cons_zero, List.set_cons_succ]
                  refine J_one 15 rfl (by kernel_rfl) (fun K hK => ?_)
                  go_simp
                  refine (known_any _).mono ?_
                  rintro e w10 ⟨rfl, hxk⟩
                  have I10 : (fun w' : World => Ext w w' ∧ w'.ownsRow B8 5 1 (.slice A8 n8 c8) n8 (bys F1)) w10 := ⟨I9.1.trans hxk, hxk.own I9.2⟩
                  clear hxk I9
                  refine hK _ _ ⟨fun _ => I10, ?_⟩
                  clear hK K
                  try simp only [Act.put, List.getElem_toArray, List.getElem_cons_zero, List.getElem_cons_succ, List.setIfInBounds_toArray, List.set_cons_zero, List.set_cons_succ]
                  refine J_one 16 rfl (by kernel_rfl) (fun K hK => ?_)
                  go_simp
                  refine hK _ _ ⟨fun _ => I10, ?_⟩
                  clear hK K
                  try simp only [Act.put, List.setIfInBounds_toArray, List.set_cons_zero, List.set_cons_succ]
                  refine J_one 17 rfl (by kernel_rfl) (fun K hK => ?_)
                  go_simp
                  refine hK _ _ ⟨fun _ => I10, ?_⟩
                  clear hK K
                  try simp only [Act.put, List.setIfInBounds_toArray, List.set_cons_zero, List.set_cons_succ]
                  refine J_done (by kernel_rfl) (OnlyOn.normal ?_)
                  have hfin := hid I10.1
                  clear I10
                  go_wp2
                  go_ret
                  exact ⟨rfl, hfin.out⟩
end Go.Proofs.Ytcgjhloiokpicaa
