/-
  An act upon a bag; Equal tables are the same; The law: what is changed directly, by a buffer and in a transaction is the same.
-/
import Derived.Test.YtngoebbmgpdeiaaGreatDoorQ8
import Derived.Test.YtngoebbmgpdeiaaGreatDoorQ6
import Derived.Test.YtngoebbmgpdeiaaGreatDoorQ5
import Derived.Test.YtngoebbmgpdeiaaGreatDoorQ1
import Derived.Test.YtngoebbmgpdeiaaGreatDoorQ15
import Derived.Test.YtngoebbmgpdeiaaGreatDoorQ16
import Derived.Test.YtngoebbmgpdeiaaGreatDoorQ17
set_option maxRecDepth 100000
set_option maxHeartbeats 40000000
set_option linter.unusedVariables false
set_option linter.unusedSimpArgs false
namespace Go.Proofs.YtngoebbmgpdeiaaGreatDoor
open Go.RowKit Go.Shelf Go.MuLone
theorem BagTo.trans {w w1 w2 : World} {lo b : Nat} {p : Int} {fs : List Fd} {rs' : List Rc} {t t1 : Tt} (hm : Mv w w1 (fun k => k = b)) (h1 : ∀ k, t1.F k → t.F k ∨ w.heap.size ≤ k) (h : BagTo w1 w2 lo b p fs rs' t1) : BagTo w w2 lo b p fs rs' t := by
  obtain ⟨t', a, b, c⟩ := h
  exact ⟨t', a, hm.trans b (fun k hk => .inl hk), fun k hk => (c k hk).elim (h1 k) (fun e => .inr (Nat.le_trans hm.size e))⟩
theorem own_setV {w : World} {lo g m c k : Nat} {l : List Vl} {y : Vl} (h : w.ownsRow lo 66 3 (.slice (some ⟨g, 0, none⟩) m c) m (vs l)) (hk : k < l.length) :
    (((w.setCell ⟨g, k * 3, none⟩ (.int .i64 y.k)).setCell ⟨g, k * 3 + 1, none⟩ (.int .i64 y.n)).setCell ⟨g, k * 3 + 2, none⟩ (.string y.s)).ownsRow lo 66 3 (.slice (some ⟨g, 0, none⟩) m c) m (vs (l.set k y)) := by
  rw [← vs_set y l k hk]
  exact own_setK (o := k * 3 + 2) (own_setK (o := k * 3 + 1) (own_setK (o := k * 3) h))
theorem direct_any (lo b : Nat) (p : Int) (fs : List Fd) (rs : List Rc) (t : Tt) (c : Cg) (x : Ac) (vals : List Vl) (w : World) (H : BagI w lo b 0 p fs rs t) (hlo : lo ≤ w.heap.size) (hE : okT p fs rs) (hv : RdV w c.V c.vn c.vc vals) (hvb : ∀ k, atB c.V c.vn k → ¬ bF b t k) (hm : c.m ≤ rs.length) (ho : ownB c.m x = true) :
    Calls Tryz.prog 12 #[.pointer (some ⟨b, 0, none⟩), .agg (cgC c).toArray, .agg (acC x).toArray] w fun e w' => e = .returned (.int .i64 (actE p fs vals rs x)) ∧ BagTo w w' lo b p fs (actR p fs vals rs x) t := by
  obtain ⟨w1, g1, e1, h1, s1, k1, x1⟩ := newB w (cgC c) 30
  obtain ⟨w2, g2, e2, h2, s2, k2, x2⟩ := newB w1 (acC x) 46
  have h2 := s1.out.symm.trans h2.out
  have hx := hid (x1.trans x2)
  have H2 := H.ext hx.out
  have hbl := H.bk.lt
  have hw := h1.out
  have hlt := hid (fun k (hk : bF b t k) => (H.lt hk).2)
  have hq := hid (bagTable_any lo b p fs rs t w2 H2 hE)
  have k1 := hid (k1.ext x2)
  have k2 := hid k2
  have hv2 := hid (hv.ext hx.out)
  have hvl := hid (fun g (hg : atB c.V c.vn g) => hv.atlt hg)
  have hvn := hid (fun g (hg : atB c.V c.vn g) => (show g ≠ b from fun e => hvb g hg (.inl e)))
  clear H H2 x1 x2 hv
  unfold cgC at e1 ⊢
  unfold acC at e2 ⊢
  unfold tb at hq
  go_enter Tryz.func12, Tryz.ntmps12
  go_upto_region 1 with fail
  simp only [e1.out, e2.out, h1.out, h2]
  clear e1 e2 h1
  go_wp2_with fail
  refine hq.out.mono ?_
  rintro e w3 ⟨A1, d1, B1, d2, rfl, hO, hB3, m3⟩
  obtain ⟨rr, hO⟩ := hO.tt
  have hOb := hid (show ¬ atB A1 fs.length b from fun e => by have := (OwTt.lt hO (hO.atF e)).1; have := hx.out.size; omega)
  have hO := hid hO.rf
  obtain ⟨w4, g3, e4, h4, s4, k3, x4⟩ := newB w3 [.int .i64 p, .slice A1 fs.length d1, .slice B1 rs.length d2] 25
  go_upto_region 2 with fail
  simp only [e4.out, h4.out]
  have k1 := hid ((k1.out.keep (m3.at k1.out.lt (by omega))).ext x4)
  have k2 := hid ((k2.out.keep (m3.at k2.out.lt (by omega))).ext x4)
  have hv4 := hid (((hv2.out.keepB (fun g hg => m3.at (hv2.out.atlt hg) (hvn.out g hg)))).ext x4)
  have H4 := hid (hB3.ext x4)
  have m4 := hid (((Mv.of hx.out).trans m3 (fun k hk => .inl hk)).ext x4)
  have hO4 := hid (RdF.ext hO.out x4)
  have k3 := hid k3
  have hg3 := hid (show w.heap.size ≤ g3 from by have := h4.out; have := m3.size; have := hx.out.size; omega)
  clear e4 h4 s4 hO hB3 m3 x4 hq hx hv2
  obtain ⟨a0, a1, a2, a3, a4, a5⟩ := k2.out.c6
  by_cases hop : x.op = 0
  · have hm1 : 1 ≤ x.a ∧ x.a ≤ c.m := by
      unfold ownB at ho
      rw [hop] at ho
      simpa using ho
    obtain ⟨i, hi, hir⟩ : ∃ i : Nat, x.a = (i : Int) + 1 ∧ i < rs.length := ⟨(x.a - 1).toNat, by omega, by omega⟩
    have hAE := hid (show actE p fs vals rs x = (if ixN fs x.s < 0 then 4 else (fitA p fs vals x).2) from if_pos hop)
    have hAR := hid (show actR p fs vals rs x = (if ixN fs x.s < 0 then rs else if (fitA p fs vals x).2 ≠ 0 then rs else setAt rs i (ixN fs x.s).toNat (fitA p fs vals x).1) from by
      unfold actR; rw [if_pos hop, show (x.a - 1).toNat = i by omega])
    rw [hop] at a0
    rw [hi] at a1
    have hop := hid hop
    have hi := hid hi
    have hqR := hid (bagRecord_any lo b i p fs rs t w4 H4.out hE hir)
    go_wp2_with fail
    refine hqR.out.mono ?_
    rintro e w5 ⟨C, cc, rfl, hrow, H5, m5⟩
    have hm5 := hid m5.size
    have m4s := hid m4.out.size
    have hg24 := hid k2.out.lt
    have hCl := hid (fun g (hg : (Value.slice C fs.length cc).ownBlock = some g) => (hrow.lt g hg).2)
    obtain ⟨w6, g4, e6, h6, s6, k6, x6⟩ := newB w5 [.bool (rth rs i).gone, .slice C fs.length cc] 69
    have hg3b : g3 ≠ b := by have := hg3.out; omega
    have K1 := hid (show Bk w6 g1 (cgC c) 30 ∧ Bk w6 g2 (acC x) 46 ∧ Bk w6 g3 [.int .i64 p, .slice A1 fs.length d1, .slice B1 rs.length d2] 25 ∧ Bk w6 g4 [.bool (rth rs i).gone, .slice C fs.length cc] 69 from
      ⟨(k1.out.keep (m5.at k1.out.lt (by omega))).ext x6, (k2.out.keep (m5.at k2.out.lt (by omega))).ext x6, (k3.out.keep (m5.at k3.out.lt hg3b)).ext x6, k6⟩)
    have hv6 := hid (((hv4.out.keepB (fun g hg => m5.at (hv4.out.atlt hg) (hvn.out g hg)))).ext x6)
    have H6 := hid (H5.ext x6)
    have m6 := hid ((m4.out.trans m5 (fun k hk => .inl hk)).ext x6)
    have hO6 : Hid (RdF w6 A1 fs.length d1 fs) := hid (RdF.ext (Rd.keepB hO4.out (fun g hg => m5.at (RdF.atlt hO4.out hg) (fun e => hOb.out (e ▸ hg)))) x6)
    have hrow6 := hid (x6.own hrow)
    have hIx := hid (Index_any A1 fs.length d1 fs x.s w6 hO6.out)
    clear k1 k2 k3 k6 m5 hv4 H5 m4 hO4 hrow hqR a0 a1 a2 a3 a4 a5
    go_upto_region 5 with fail
    simp only [e6.out, h6.out]
    have hCg := hid (fun g (hg : (Value.slice C fs.length cc).ownBlock = some g) => (show g < g4 from by have := hCl.out g hg; have := h6.out; omega))
    have hg4 := hid (show w4.heap.size ≤ g4 from by have := h6.out; have := hm5.out; omega)
    clear e6 h6 s6 x6
    obtain ⟨u0, u1, u2⟩ := K1.out.2.2.1.c3
    obtain ⟨a0, a1, a2, a3, a4, a5⟩ := K1.out.2.1.c6
    rw [hop.out] at a0
    rw [hi.out] at a1
    go_wp2_with fail
    refine hIx.out.mono ?_
    rintro e w7 ⟨rfl, hx7⟩
    have K7 := hid (show Bk w7 g1 (cgC c) 30 ∧ Bk w7 g2 (acC x) 46 ∧ Bk w7 g3 [.int .i64 p, .slice A1 fs.length d1, .slice B1 rs.length d2] 25 ∧ Bk w7 g4 [.bool (rth rs i).gone, .slice C fs.length cc] 69 from
      ⟨K1.out.1.ext hx7, K1.out.2.1.ext hx7, K1.out.2.2.1.ext hx7, K1.out.2.2.2.ext hx7⟩)
    have hv7 := hid (hv6.out.ext hx7)
    have H7 := hid (H6.out.ext hx7)
    have m7 := hid (m6.out.ext hx7)
    have hO7 := hid (RdF.ext hO6.out hx7)
    have hrow7 := hid (hx7.own hrow6.out)
    clear K1 hv6 H6 m6 hO6 hrow6 hIx hx7 u0 u1 u2 a0 a1 a2 a3 a4 a5
    by_cases hix : ixN fs x.s < 0
    · have hd : decide (0 ≤ ixN fs x.s) = false := by simp; omega
      rw [if_pos hix] at hAE hAR
      have hres : Hid (BagTo w w7 lo b p fs rs t) := ⟨t, H7.out, m7.out, fun k hk => .inl hk⟩
      clear K7 hv7 H7 m7 hO7 hrow7
      rw [hd]
      go_wp2
      go_ret
      exact ⟨by rw [hAE.out]; rfl, by rw [hAR.out]; exact hres.out⟩
    · obtain ⟨k, hk, hkl⟩ : ∃ k : Nat, ixN fs x.s = k ∧ k < fs.length := ⟨_, (by omega : _ = (((ixN fs x.s).toNat : Nat) : Int)), ixN_lt hix⟩
      rw [if_neg hix] at hAE hAR
      have hd : decide (0 ≤ ixN fs x.s) = true := by simp; omega
      rw [hd, hk, show max (k : Int) 0 = (k : Int) by omega]
      have hfa := hid (show fitA p fs vals x = fitR (fth fs k) p (valOf vals x.b) from by unfold fitA; rw [hk]; rfl)
      rw [hk, Int.toNat_natCast] at hAR
      obtain ⟨gA, eA, -⟩ : ∃ g, A1 = some g ∧ True := by
        obtain ⟨ad, e, -⟩ := hO7.out.at_ hkl
        exact ⟨ad, e, trivial⟩
      subst eA
      clear hix hd
      go_upto_region 8 with fail
      have xq := (Ext.refl w7).drew_right
      refine region_J (fun w' => Ext w7 w') 18 (by kernel_rfl) ?_
      generalize w7.drew = dq at xq ⊢
      refine JR 0 (v := ?vq1) rfl (by kernel_rfl) rfl ?yq1 xq ?rq1
      case yq1 => (intro w hw; (go_simp; with_reducible rfl))
      simp only [Act.put, lyA, lyB, lyC, lyD, lyE, lyF]
      refine JR 1 (v := ?vq2) rfl (by kernel_rfl) rfl ?yq2 xq ?rq2
      case yq2 => (intro w hw; obtain ⟨u0, u1, u2⟩ := (K7.out.2.2.1.ext hw).c3; obtain ⟨b0, b1, b2, b3, b4, b5⟩ := (K7.out.1.ext hw).c6; obtain ⟨a0, a1, a2, a3, a4, a5⟩ := (K7.out.2.1.ext hw).c6; obtain ⟨_, eA, x0, x1, x2, x3⟩ := (RdF.ext hO7.out hw).at_ hkl; injection eA with eA; subst eA; (go_simp; with_reducible rfl))
      simp only [Act.put, lyA, lyB, lyC, lyD, lyE, lyF]
      refine JR 2 (v := ?vq3) rfl (by kernel_rfl) rfl ?yq3 xq ?rq3
      case yq3 => (intro w hw; (go_simp; with_reducible rfl))
      simp only [Act.put, lyA, lyB, lyC, lyD, lyE, lyF]
      refine JR 3 (v := ?vq4) rfl (by kernel_rfl) rfl ?yq4 xq ?rq4
      case yq4 => (intro w hw; (go_simp; with_reducible rfl))
      simp only [Act.put, lyA, lyB, lyC, lyD, lyE, lyF]
      refine JR 4 (v := ?vq5) rfl (by kernel_rfl) rfl ?yq5 xq ?rq5
      case yq5 => (intro w hw; obtain ⟨u0, u1, u2⟩ := (K7.out.2.2.1.ext hw).c3; obtain ⟨b0, b1, b2, b3, b4, b5⟩ := (K7.out.1.ext hw).c6; obtain ⟨a0, a1, a2, a3, a4, a5⟩ := (K7.out.2.1.ext hw).c6; obtain ⟨_, eA, x0, x1, x2, x3⟩ := (RdF.ext hO7.out hw).at_ hkl; injection eA with eA; subst eA; (go_simp; with_reducible rfl))
      simp only [Act.put, lyA, lyB, lyC, lyD, lyE, lyF]
      refine JR 5 (v := ?vq6) rfl (by kernel_rfl) rfl ?yq6 xq ?rq6
      case yq6 => (intro w hw; (go_simp; with_reducible rfl))
      simp only [Act.put, lyA, lyB, lyC, lyD, lyE, lyF]
      refine JR 6 (v := ?vq7) rfl (by kernel_rfl) rfl ?yq7 xq ?rq7
      case yq7 => (intro w hw; obtain ⟨u0, u1, u2⟩ := (K7.out.2.2.1.ext hw).c3; obtain ⟨b0, b1, b2, b3, b4, b5⟩ := (K7.out.1.ext hw).c6; obtain ⟨a0, a1, a2, a3, a4, a5⟩ := (K7.out.2.1.ext hw).c6; obtain ⟨_, eA, x0, x1, x2, x3⟩ := (RdF.ext hO7.out hw).at_ hkl; injection eA with eA; subst eA; (go_simp; with_reducible rfl))
      simp only [Act.put, lyA, lyB, lyC, lyD, lyE, lyF]
      refine JR 7 (v := ?vq8) rfl (by kernel_rfl) rfl ?yq8 xq ?rq8
      case yq8 => (intro w hw; obtain ⟨u0, u1, u2⟩ := (K7.out.2.2.1.ext hw).c3; obtain ⟨b0, b1, b2, b3, b4, b5⟩ := (K7.out.1.ext hw).c6; obtain ⟨a0, a1, a2, a3, a4, a5⟩ := (K7.out.2.1.ext hw).c6; obtain ⟨_, eA, x0, x1, x2, x3⟩ := (RdF.ext hO7.out hw).at_ hkl; injection eA with eA; subst eA; (go_simp; with_reducible rfl))
      simp only [Act.put, lyA, lyB, lyC, lyD, lyE, lyF]
      refine JR 8 (v := ?vq9) rfl (by kernel_rfl) rfl ?yq9 xq ?rq9
      case yq9 => (intro w hw; (go_simp; with_reducible rfl))
      simp only [Act.put, lyA, lyB, lyC, lyD, lyE, lyF]
      refine JR 9 (v := ?vq10) rfl (by kernel_rfl) rfl ?yq10 xq ?rq10
      case yq10 => (intro w hw; obtain ⟨u0, u1, u2⟩ := (K7.out.2.2.1.ext hw).c3; obtain ⟨b0, b1, b2, b3, b4, b5⟩ := (K7.out.1.ext hw).c6; obtain ⟨a0, a1, a2, a3, a4, a5⟩ := (K7.out.2.1.ext hw).c6; obtain ⟨_, eA, x0, x1, x2, x3⟩ := (RdF.ext hO7.out hw).at_ hkl; injection eA with eA; subst eA; (go_simp; with_reducible rfl))
      simp only [Act.put, lyA, lyB, lyC, lyD, lyE, lyF]
      refine J_two 10 15 rfl rfl (by kernel_rfl) (fun K hK => ?_) (fun K hK => ?_)
      · go_simp
        refine (value_any c x.b vals _ (hv7.out.ext xq)).mono ?_
        rintro e wq11 ⟨rfl, hxq11⟩
        unfold vl
        refine hK _ _ ⟨fun _ => ((xq).trans hxq11), ?_⟩
        clear hK K
        try simp only [Act.put, lyA, lyB, lyC, lyD, lyE, lyF]
        have xq11 := ((xq).trans hxq11)
        refine J_two 11 15 rfl rfl (by kernel_rfl) (fun K hK => ?_) (fun K hK => ?_)
        · go_simp
          refine (Fit_any (fth fs k) p (valOf vals x.b) _).mono ?_
          rintro e wq12 ⟨rfl, hxq12⟩
          rw [← hfa.out]
          unfold vl
          refine hK _ _ ⟨fun _ => ((xq11).trans hxq12), ?_⟩
          clear hK K
          try simp only [Act.put, lyA, lyB, lyC, lyD, lyE, lyF]
          have xq12 := ((xq11).trans hxq12)
          refine JR 12 (v := ?vq13) rfl (by kernel_rfl) rfl ?yq13 xq12 ?rq13
          case yq13 => (intro w hw; (go_simp; with_reducible rfl))
          simp only [Act.put, lyA, lyB, lyC, lyD, lyE, lyF]
          refine JR 13 (v := ?vq14) rfl (by kernel_rfl) rfl ?yq14 xq12 ?rq14
          case yq14 => (intro w hw; (go_simp; with_reducible rfl))
          simp only [Act.put, lyA, lyB, lyC, lyD, lyE, lyF]
          refine JR 14 (v := ?vq15) rfl (by kernel_rfl) rfl ?yq15 xq12 ?rq15
          case yq15 => (intro w hw; (go_simp; with_reducible rfl))
          simp only [Act.put, lyA, lyB, lyC, lyD, lyE, lyF]
          refine J_one 15 rfl (by kernel_rfl) (fun K hK => ?_)
          go_simp
          obtain ⟨wq16, bq16, eq16, gq16, hq16, cq16, hxq16, lq16⟩ := alloc_at wq12 [.int .i64 0, .int .i64 0, .string ⟨#[]⟩] 66
          simp only [eq16, gq16]
          have zq16 : w7.heap.size ≤ bq16 := by rw [← gq16]; exact (xq12).size
          have yq16 : wq12.heap.size ≤ bq16 := by rw [← gq16]; exact Nat.le_refl _
          clear eq16 gq16 cq16
          refine hK _ _ ⟨fun _ => ((xq12).trans hxq16), ?_⟩
          clear hK K
          try simp only [Act.put, lyA, lyB, lyC, lyD, lyE, lyF]
          have xq16 := ((xq12).trans hxq16)
          refine J_one 16 rfl (by kernel_rfl) (fun K hK => ?_)
          refine step_store0 rfl 66 _ _ rfl bq16 [.int .i64 (fitA p fs vals x).1.k, .int .i64 (fitA p fs vals x).1.n, .string (fitA p fs vals x).1.s] rfl rfl hq16 (by kernel_rfl) (by first | rfl | simp [Value.oneCell']) ?_
          obtain ⟨wq17, eq17, hq17, cq17, hxq17, -, hkq17⟩ := store_at (u := w7) [.int .i64 (fitA p fs vals x).1.k, .int .i64 (fitA p fs vals x).1.n, .string (fitA p fs vals x).1.s] hq16 (xq16) zq16
          rw [eq17]
          clear eq17
          refine hK _ _ ⟨fun _ => hxq17, ?_⟩
          clear hK K
          try simp only [Act.put, lyA, lyB, lyC, lyD, lyE, lyF]
          refine JR 17 (v := ?vq18) rfl (by kernel_rfl) rfl ?yq18 hxq17 ?rq18
          case yq18 => (intro w hw; (go_simp; with_reducible rfl))
          simp only [Act.put, lyA, lyB, lyC, lyD, lyE, lyF]
          refine J_done (by kernel_rfl) (OnlyOn.normal ?_)
          have hy := hid (hxq17)
          have hc := cq17
          have hV9 : _ ∧ _ ∧ _ := ⟨hc 0 _ rfl, hc 1 _ rfl, hc 2 _ rfl⟩
          clear hc
          generalize wq17 = w9 at *
          have K9 := hid (show Bk w9 g1 (cgC c) 30 ∧ Bk w9 g2 (acC x) 46 ∧ Bk w9 g4 [.bool (rth rs i).gone, .slice C fs.length cc] 69 from ⟨K7.out.1.ext hy.out, K7.out.2.1.ext hy.out, K7.out.2.2.2.ext hy.out⟩)
          have H9 := hid (H7.out.ext hy.out)
          have m9 := hid (m7.out.ext hy.out)
          have hrow9 := hid (hy.out.own hrow7.out)
          have hs79 := hid hy.out.size
          clear K7 H7 m7 hO7 hrow7 hv7 hy
          by_cases he : (fitA p fs vals x).2 = 0
          · have hho := fit_holds (f := fth fs k) (p := p) (x := valOf vals x.b) (by rw [← hfa.out]; exact he)
            rw [← hfa.out] at hho
            rw [if_neg (by simpa using he)] at hAR
            rw [he] at hAE ⊢
            have hho := hid hho
            generalize (fitA p fs vals x).1 = y at *
            obtain ⟨v0, v1, v2⟩ := hV9
            obtain ⟨gC, eC, hC1, hC2⟩ := own_blk hrow9.out (by omega)
            subst eC
            obtain ⟨r0, r1⟩ := K9.out.2.2.c2
            have hth := row_there hrow9.out (o := k * 3) (s := 3) (by omega)
            have hxl := hid (recE_len ((okT_iff.1 hE).2.2.2 i hir))
            have hr10 := hid (own_setV (y := y) hrow9.out (k := k) (by rw [hxl.out]; exact hkl))
            have hCb : gC ≠ b := by have := m4s.out; omega
            have hC4 : gC < g4 := hCg.out gC rfl
            have K10 := hid (show Bk (((w9.setCell ⟨gC, k * 3, none⟩ (.int .i64 y.k)).setCell ⟨gC, k * 3 + 1, none⟩ (.int .i64 y.n)).setCell ⟨gC, k * 3 + 2, none⟩ (.string y.s)) g2 (acC x) 46 ∧ Bk (((w9.setCell ⟨gC, k * 3, none⟩ (.int .i64 y.k)).setCell ⟨gC, k * 3 + 1, none⟩ (.int .i64 y.n)).setCell ⟨gC, k * 3 + 2, none⟩ (.string y.s)) g4 [.bool (rth rs i).gone, .slice (some ⟨gC, 0, none⟩) fs.length cc] 69 from
              ⟨((K9.out.2.1.other (by have := hg24.out; omega) _ _).other (by have := hg24.out; omega) _ _).other (by have := hg24.out; omega) _ _, ((K9.out.2.2.other (by omega) _ _).other (by omega) _ _).other (by omega) _ _⟩)
            have H10 := hid (H9.out.keep (w' := ((w9.setCell ⟨gC, k * 3, none⟩ (.int .i64 y.k)).setCell ⟨gC, k * 3 + 1, none⟩ (.int .i64 y.n)).setCell ⟨gC, k * 3 + 2, none⟩ (.string y.s)) (fun j hj => by
              have hjg : j ≠ gC := fun e => by have := hlt.out j hj; have := m4s.out; omega
              rw [(setCell_at _ gC _ _).2 j hjg, (setCell_at _ gC _ _).2 j hjg, (setCell_at _ gC _ _).2 j hjg]))
            have hgw : w.heap.size ≤ gC := by have := m4s.out; omega
            have m10 := hid (((m9.out.set (g := gC) (.inr hgw) (k * 3) (.int .i64 y.k)).set (g := gC) (.inr hgw) (k * 3 + 1) (.int .i64 y.n)).set (g := gC) (.inr hgw) (k * 3 + 2) (.string y.s))
            have hsz : (((w9.setCell ⟨gC, k * 3, none⟩ (.int .i64 y.k)).setCell ⟨gC, k * 3 + 1, none⟩ (.int .i64 y.n)).setCell ⟨gC, k * 3 + 2, none⟩ (.string y.s)).heap.size = w9.heap.size := by rw [(setCell_at _ _ _ _).1, (setCell_at _ _ _ _).1, (setCell_at _ _ _ _).1]
            have hput := hid (bagPut_any lo b i p fs rs ⟨(rth rs i).gone, (rth rs i).v.set k y⟩ (some ⟨gC, 0, none⟩) cc t _ H10.out (by rw [hsz]; have := m9.out.size; omega) hE hir (okT_setAt hE hir hho.out) (Rd.of_own hr10.out) (fun e => by obtain ⟨ad, e1, -, e2⟩ := e; injection e1 with e1; subst e1; exact hCb e2))
            obtain ⟨t0, z0⟩ := hth 0 (by omega)
            obtain ⟨t1, z1⟩ := hth 1 (by omega)
            obtain ⟨t2, z2⟩ := hth 2 (by omega)
            rw [Nat.add_zero] at t0 z0
            obtain ⟨q0, t0⟩ := Option.isSome_iff_exists.1 t0
            obtain ⟨q1, t1⟩ := Option.isSome_iff_exists.1 t1
            obtain ⟨q2, t2⟩ := Option.isSome_iff_exists.1 t2
            have i5 : (k : Int) < fs.length := by omega
            clear K9 H9 m9 hrow9 hr10 hth H10
            obtain ⟨a0, a1, a2, a3, a4, a5⟩ := K10.out.1.c6
            obtain ⟨s0, s1⟩ := K10.out.2.c2
            rw [hi.out] at a1
            go_upto_region 12 with fail
            clear r0 r1 v0 v1 v2 t0 t1 t2 z0 z1 z2
            generalize ((w9.setCell ⟨gC, k * 3, none⟩ (.int .i64 y.k)).setCell ⟨gC, k * 3 + 1, none⟩ (.int .i64 y.n)).setCell ⟨gC, k * 3 + 2, none⟩ (.string y.s) = w10 at *
            go_wp2_with fail
            refine hput.out.mono ?_
            rintro e w11 ⟨rfl, hto⟩
            have hres : Hid (BagTo w w11 lo b p fs (setAt rs i k y) t) := BagTo.trans (t1 := t) (t := t) m10.out (fun k hk => .inl hk) hto
            clear hput hto m10
            go_wp2
            go_ret
            exact ⟨by rw [hAE.out]; rfl, by rw [hAR.out]; exact hres.out⟩
          · rw [if_pos (by simpa using he)] at hAR
            have hres : Hid (BagTo w w9 lo b p fs rs t) := ⟨t, H9.out, m9.out, fun k hk => .inl hk⟩
            clear K9 H9 m9 hrow9
            have he2 : ((fitA p fs vals x).2 != 0) = true := by simpa using he
            generalize (fitA p fs vals x).2 = E at *
            go_wp2
            go_ret
            exact ⟨by rw [hAE.out]; rfl, by rw [hAR.out]; exact hres.out⟩
        · go_simp
          obtain ⟨wq19, bq19, eq19, gq19, hq19, cq19, hxq19, lq19⟩ := alloc_at wq11 [.int .i64 0, .int .i64 0, .string ⟨#[]⟩] 66
          simp only [eq19, gq19]
          have zq19 : w7.heap.size ≤ bq19 := by rw [← gq19]; exact (xq11).size
          have yq19 : wq11.heap.size ≤ bq19 := by rw [← gq19]; exact Nat.le_refl _
          clear eq19 gq19 cq19
          refine hK _ _ ⟨fun _ => ((xq11).trans hxq19), ?_⟩
          clear hK K
          try simp only [Act.put, lyA, lyB, lyC, lyD, lyE, lyF]
          have xq19 := ((xq11).trans hxq19)
          refine J_one 11 rfl (by kernel_rfl) (fun K hK => ?_)
          go_simp
          refine (Fit_any (fth fs k) p (valOf vals x.b) _).mono ?_
          rintro e wq20 ⟨rfl, hxq20⟩
          rw [← hfa.out]
          unfold vl
          refine hK _ _ ⟨fun _ => ((xq19).trans hxq20), ?_⟩
          clear hK K
          try simp only [Act.put, lyA, lyB, lyC, lyD, lyE, lyF]
          replace hq19 := hq19.ext hxq20
          have xq20 := ((xq19).trans hxq20)
          refine JR 12 (v := ?vq21) rfl (by kernel_rfl) rfl ?yq21 xq20 ?rq21
          case yq21 => (intro w hw; (go_simp; with_reducible rfl))
          simp only [Act.put, lyA, lyB, lyC, lyD, lyE, lyF]
          refine JR 13 (v := ?vq22) rfl (by kernel_rfl) rfl ?yq22 xq20 ?rq22
          case yq22 => (intro w hw; (go_simp; with_reducible rfl))
          simp only [Act.put, lyA, lyB, lyC, lyD, lyE, lyF]
          refine JR 14 (v := ?vq23) rfl (by kernel_rfl) rfl ?yq23 xq20 ?rq23
          case yq23 => (intro w hw; (go_simp; with_reducible rfl))
          simp only [Act.put, lyA, lyB, lyC, lyD, lyE, lyF]
          refine J_one 16 rfl (by kernel_rfl) (fun K hK => ?_)
          refine step_store0 rfl 66 _ _ rfl bq19 [.int .i64 (fitA p fs vals x).1.k, .int .i64 (fitA p fs vals x).1.n, .string (fitA p fs vals x).1.s] rfl rfl hq19 (by kernel_rfl) (by first | rfl | simp [Value.oneCell']) ?_
          obtain ⟨wq24, eq24, hq24, cq24, hxq24, -, hkq24⟩ := store_at (u := w7) [.int .i64 (fitA p fs vals x).1.k, .int .i64 (fitA p fs vals x).1.n, .string (fitA p fs vals x).1.s] hq19 (xq20) zq19
          rw [eq24]
          clear eq24
          refine hK _ _ ⟨fun _ => hxq24, ?_⟩
          clear hK K
          try simp only [Act.put, lyA, lyB, lyC, lyD, lyE, lyF]
          refine JR 17 (v := ?vq25) rfl (by kernel_rfl) rfl ?yq25 hxq24 ?rq25
          case yq25 => (intro w hw; (go_simp; with_reducible rfl))
          simp only [Act.put, lyA, lyB, lyC, lyD, lyE, lyF]
          refine J_done (by kernel_rfl) (OnlyOn.normal ?_)
          have hy := hid (hxq24)
          have hc := cq24
          have hV9 : _ ∧ _ ∧ _ := ⟨hc 0 _ rfl, hc 1 _ rfl, hc 2 _ rfl⟩
          clear hc
          generalize wq24 = w9 at *
          have K9 := hid (show Bk w9 g1 (cgC c) 30 ∧ Bk w9 g2 (acC x) 46 ∧ Bk w9 g4 [.bool (rth rs i).gone, .slice C fs.length cc] 69 from ⟨K7.out.1.ext hy.out, K7.out.2.1.ext hy.out, K7.out.2.2.2.ext hy.out⟩)
          have H9 := hid (H7.out.ext hy.out)
          have m9 := hid (m7.out.ext hy.out)
          have hrow9 := hid (hy.out.own hrow7.out)
          have hs79 := hid hy.out.size
          clear K7 H7 m7 hO7 hrow7 hv7 hy
          by_cases he : (fitA p fs vals x).2 = 0
          · have hho := fit_holds (f := fth fs k) (p := p) (x := valOf vals x.b) (by rw [← hfa.out]; exact he)
            rw [← hfa.out] at hho
            rw [if_neg (by simpa using he)] at hAR
            rw [he] at hAE ⊢
            have hho := hid hho
            generalize (fitA p fs vals x).1 = y at *
            obtain ⟨v0, v1, v2⟩ := hV9
            obtain ⟨gC, eC, hC1, hC2⟩ := own_blk hrow9.out (by omega)
            subst eC
            obtain ⟨r0, r1⟩ := K9.out.2.2.c2
            have hth := row_there hrow9.out (o := k * 3) (s := 3) (by omega)
            have hxl := hid (recE_len ((okT_iff.1 hE).2.2.2 i hir))
            have hr10 := hid (own_setV (y := y) hrow9.out (k := k) (by rw [hxl.out]; exact hkl))
            have hCb : gC ≠ b := by have := m4s.out; omega
            have hC4 : gC < g4 := hCg.out gC rfl
            have K10 := hid (show Bk (((w9.setCell ⟨gC, k * 3, none⟩ (.int .i64 y.k)).setCell ⟨gC, k * 3 + 1, none⟩ (.int .i64 y.n)).setCell ⟨gC, k * 3 + 2, none⟩ (.string y.s)) g2 (acC x) 46 ∧ Bk (((w9.setCell ⟨gC, k * 3, none⟩ (.int .i64 y.k)).setCell ⟨gC, k * 3 + 1, none⟩ (.int .i64 y.n)).setCell ⟨gC, k * 3 + 2, none⟩ (.string y.s)) g4 [.bool (rth rs i).gone, .slice (some ⟨gC, 0, none⟩) fs.length cc] 69 from
              ⟨((K9.out.2.1.other (by have := hg24.out; omega) _ _).other (by have := hg24.out; omega) _ _).other (by have := hg24.out; omega) _ _, ((K9.out.2.2.other (by omega) _ _).other (by omega) _ _).other (by omega) _ _⟩)
            have H10 := hid (H9.out.keep (w' := ((w9.setCell ⟨gC, k * 3, none⟩ (.int .i64 y.k)).setCell ⟨gC, k * 3 + 1, none⟩ (.int .i64 y.n)).setCell ⟨gC, k * 3 + 2, none⟩ (.string y.s)) (fun j hj => by
              have hjg : j ≠ gC := fun e => by have := hlt.out j hj; have := m4s.out; omega
              rw [(setCell_at _ gC _ _).2 j hjg, (setCell_at _ gC _ _).2 j hjg, (setCell_at _ gC _ _).2 j hjg]))
            have hgw : w.heap.size ≤ gC := by have := m4s.out; omega
            have m10 := hid (((m9.out.set (g := gC) (.inr hgw) (k * 3) (.int .i64 y.k)).set (g := gC) (.inr hgw) (k * 3 + 1) (.int .i64 y.n)).set (g := gC) (.inr hgw) (k * 3 + 2) (.string y.s))
            have hsz : (((w9.setCell ⟨gC, k * 3, none⟩ (.int .i64 y.k)).setCell ⟨gC, k * 3 + 1, none⟩ (.int .i64 y.n)).setCell ⟨gC, k * 3 + 2, none⟩ (.string y.s)).heap.size = w9.heap.size := by rw [(setCell_at _ _ _ _).1, (setCell_at _ _ _ _).1, (setCell_at _ _ _ _).1]
            have hput := hid (bagPut_any lo b i p fs rs ⟨(rth rs i).gone, (rth rs i).v.set k y⟩ (some ⟨gC, 0, none⟩) cc t _ H10.out (by rw [hsz]; have := m9.out.size; omega) hE hir (okT_setAt hE hir hho.out) (Rd.of_own hr10.out) (fun e => by obtain ⟨ad, e1, -, e2⟩ := e; injection e1 with e1; subst e1; exact hCb e2))
            obtain ⟨t0, z0⟩ := hth 0 (by omega)
            obtain ⟨t1, z1⟩ := hth 1 (by omega)
            obtain ⟨t2, z2⟩ := hth 2 (by omega)
            rw [Nat.add_zero] at t0 z0
            obtain ⟨q0, t0⟩ := Option.isSome_iff_exists.1 t0
            obtain ⟨q1, t1⟩ := Option.isSome_iff_exists.1 t1
            obtain ⟨q2, t2⟩ := Option.isSome_iff_exists.1 t2
            have i5 : (k : Int) < fs.length := by omega
            clear K9 H9 m9 hrow9 hr10 hth H10
            obtain ⟨a0, a1, a2, a3, a4, a5⟩ := K10.out.1.c6
            obtain ⟨s0, s1⟩ := K10.out.2.c2
            rw [hi.out] at a1
            go_upto_region 12 with fail
            clear r0 r1 v0 v1 v2 t0 t1 t2 z0 z1 z2
            generalize ((w9.setCell ⟨gC, k * 3, none⟩ (.int .i64 y.k)).setCell ⟨gC, k * 3 + 1, none⟩ (.int .i64 y.n)).setCell ⟨gC, k * 3 + 2, none⟩ (.string y.s) = w10 at *
            go_wp2_with fail
            refine hput.out.mono ?_
            rintro e w11 ⟨rfl, hto⟩
            have hres : Hid (BagTo w w11 lo b p fs (setAt rs i k y) t) := BagTo.trans (t1 := t) (t := t) m10.out (fun k hk => .inl hk) hto
            clear hput hto m10
            go_wp2
            go_ret
            exact ⟨by rw [hAE.out]; rfl, by rw [hAR.out]; exact hres.out⟩
          · rw [if_pos (by simpa using he)] at hAR
            have hres : Hid (BagTo w w9 lo b p fs rs t) := ⟨t, H9.out, m9.out, fun k hk => .inl hk⟩
            clear K9 H9 m9 hrow9
            have he2 : ((fitA p fs vals x).2 != 0) = true := by simpa using he
            generalize (fitA p fs vals x).2 = E at *
            go_wp2
            go_ret
            exact ⟨by rw [hAE.out]; rfl, by rw [hAR.out]; exact hres.out⟩
      · go_simp
        obtain ⟨wq26, bq26, eq26, gq26, hq26, cq26, hxq26, lq26⟩ := alloc_at dq [.int .i64 0, .int .i64 0, .string ⟨#[]⟩] 66
        simp only [eq26, gq26]
        have zq26 : w7.heap.size ≤ bq26 := by rw [← gq26]; exact (xq).size
        have yq26 : dq.heap.size ≤ bq26 := by rw [← gq26]; exact Nat.le_refl _
        clear eq26 gq26 cq26
        refine hK _ _ ⟨fun _ => ((xq).trans hxq26), ?_⟩
        clear hK K
        try simp only [Act.put, lyA, lyB, lyC, lyD, lyE, lyF]
        have xq26 := ((xq).trans hxq26)
        refine J_one 10 rfl (by kernel_rfl) (fun K hK => ?_)
        go_simp
        refine (value_any c x.b vals _ (hv7.out.ext xq26)).mono ?_
        rintro e wq27 ⟨rfl, hxq27⟩
        unfold vl
        refine hK _ _ ⟨fun _ => ((xq26).trans hxq27), ?_⟩
        clear hK K
        try simp only [Act.put, lyA, lyB, lyC, lyD, lyE, lyF]
        replace hq26 := hq26.ext hxq27
        have xq27 := ((xq26).trans hxq27)
        refine J_one 11 rfl (by kernel_rfl) (fun K hK => ?_)
        go_simp
        refine (Fit_any (fth fs k) p (valOf vals x.b) _).mono ?_
        rintro e wq28 ⟨rfl, hxq28⟩
        rw [← hfa.out]
        unfold vl
        refine hK _ _ ⟨fun _ => ((xq27).trans hxq28), ?_⟩
        clear hK K
        try simp only [Act.put, lyA, lyB, lyC, lyD, lyE, lyF]
        replace hq26 := hq26.ext hxq28
        have xq28 := ((xq27).trans hxq28)
        refine JR 12 (v := ?vq29) rfl (by kernel_rfl) rfl ?yq29 xq28 ?rq29
        case yq29 => (intro w hw; (go_simp; with_reducible rfl))
        simp only [Act.put, lyA, lyB, lyC, lyD, lyE, lyF]
        refine JR 13 (v := ?vq30) rfl (by kernel_rfl) rfl ?yq30 xq28 ?rq30
        case yq30 => (intro w hw; (go_simp; with_reducible rfl))
        simp only [Act.put, lyA, lyB, lyC, lyD, lyE, lyF]
        refine JR 14 (v := ?vq31) rfl (by kernel_rfl) rfl ?yq31 xq28 ?rq31
        case yq31 => (intro w hw; (go_simp; with_reducible rfl))
        simp only [Act.put, lyA, lyB, lyC, lyD, lyE, lyF]
        refine J_one 16 rfl (by kernel_rfl) (fun K hK => ?_)
        refine step_store0 rfl 66 _ _ rfl bq26 [.int .i64 (fitA p fs vals x).1.k, .int .i64 (fitA p fs vals x).1.n, .string (fitA p fs vals x).1.s] rfl rfl hq26 (by kernel_rfl) (by first | rfl | simp [Value.oneCell']) ?_
        obtain ⟨wq32, eq32, hq32, cq32, hxq32, -, hkq32⟩ := store_at (u := w7) [.int .i64 (fitA p fs vals x).1.k, .int .i64 (fitA p fs vals x).1.n, .string (fitA p fs vals x).1.s] hq26 (xq28) zq26
        rw [eq32]
        clear eq32
        refine hK _ _ ⟨fun _ => hxq32, ?_⟩
        clear hK K
        try simp only [Act.put, lyA, lyB, lyC, lyD, lyE, lyF]
        refine JR 17 (v := ?vq33) rfl (by kernel_rfl) rfl ?yq33 hxq32 ?rq33
        case yq33 => (intro w hw; (go_simp; with_reducible rfl))
        simp only [Act.put, lyA, lyB, lyC, lyD, lyE, lyF]
        refine J_done (by kernel_rfl) (OnlyOn.normal ?_)
        have hy := hid (hxq32)
        have hc := cq32
        have hV9 : _ ∧ _ ∧ _ := ⟨hc 0 _ rfl, hc 1 _ rfl, hc 2 _ rfl⟩
        clear hc
        generalize wq32 = w9 at *
        have K9 := hid (show Bk w9 g1 (cgC c) 30 ∧ Bk w9 g2 (acC x) 46 ∧ Bk w9 g4 [.bool (rth rs i).gone, .slice C fs.length cc] 69 from ⟨K7.out.1.ext hy.out, K7.out.2.1.ext hy.out, K7.out.2.2.2.ext hy.out⟩)
        have H9 := hid (H7.out.ext hy.out)
        have m9 := hid (m7.out.ext hy.out)
        have hrow9 := hid (hy.out.own hrow7.out)
        have hs79 := hid hy.out.size
        clear K7 H7 m7 hO7 hrow7 hv7 hy
        by_cases he : (fitA p fs vals x).2 = 0
        · have hho := fit_holds (f := fth fs k) (p := p) (x := valOf vals x.b) (by rw [← hfa.out]; exact he)
          rw [← hfa.out] at hho
          rw [if_neg (by simpa using he)] at hAR
          rw [he] at hAE ⊢
          have hho := hid hho
          generalize (fitA p fs vals x).1 = y at *
          obtain ⟨v0, v1, v2⟩ := hV9
          obtain ⟨gC, eC, hC1, hC2⟩ := own_blk hrow9.out (by omega)
          subst eC
          obtain ⟨r0, r1⟩ := K9.out.2.2.c2
          have hth := row_there hrow9.out (o := k * 3) (s := 3) (by omega)
          have hxl := hid (recE_len ((okT_iff.1 hE).2.2.2 i hir))
          have hr10 := hid (own_setV (y := y) hrow9.out (k := k) (by rw [hxl.out]; exact hkl))
          have hCb : gC ≠ b := by have := m4s.out; omega
          have hC4 : gC < g4 := hCg.out gC rfl
          have K10 := hid (show Bk (((w9.setCell ⟨gC, k * 3, none⟩ (.int .i64 y.k)).setCell ⟨gC, k * 3 + 1, none⟩ (.int .i64 y.n)).setCell ⟨gC, k * 3 + 2, none⟩ (.string y.s)) g2 (acC x) 46 ∧ Bk (((w9.setCell ⟨gC, k * 3, none⟩ (.int .i64 y.k)).setCell ⟨gC, k * 3 + 1, none⟩ (.int .i64 y.n)).setCell ⟨gC, k * 3 + 2, none⟩ (.string y.s)) g4 [.bool (rth rs i).gone, .slice (some ⟨gC, 0, none⟩) fs.length cc] 69 from
            ⟨((K9.out.2.1.other (by have := hg24.out; omega) _ _).other (by have := hg24.out; omega) _ _).other (by have := hg24.out; omega) _ _, ((K9.out.2.2.other (by omega) _ _).other (by omega) _ _).other (by omega) _ _⟩)
          have H10 := hid (H9.out.keep (w' := ((w9.setCell ⟨gC, k * 3, none⟩ (.int .i64 y.k)).setCell ⟨gC, k * 3 + 1, none⟩ (.int .i64 y.n)).setCell ⟨gC, k * 3 + 2, none⟩ (.string y.s)) (fun j hj => by
            have hjg : j ≠ gC := fun e => by have := hlt.out j hj; have := m4s.out; omega
            rw [(setCell_at _ gC _ _).2 j hjg, (setCell_at _ gC _ _).2 j hjg, (setCell_at _ gC _ _).2 j hjg]))
          have hgw : w.heap.size ≤ gC := by have := m4s.out; omega
          have m10 := hid (((m9.out.set (g := gC) (.inr hgw) (k * 3) (.int .i64 y.k)).set (g := gC) (.inr hgw) (k * 3 + 1) (.int .i64 y.n)).set (g := gC) (.inr hgw) (k * 3 + 2) (.string y.s))
          have hsz : (((w9.setCell ⟨gC, k * 3, none⟩ (.int .i64 y.k)).setCell ⟨gC, k * 3 + 1, none⟩ (.int .i64 y.n)).setCell ⟨gC, k * 3 + 2, none⟩ (.string y.s)).heap.size = w9.heap.size := by rw [(setCell_at _ _ _ _).1, (setCell_at _ _ _ _).1, (setCell_at _ _ _ _).1]
          have hput := hid (bagPut_any lo b i p fs rs ⟨(rth rs i).gone, (rth rs i).v.set k y⟩ (some ⟨gC, 0, none⟩) cc t _ H10.out (by rw [hsz]; have := m9.out.size; omega) hE hir (okT_setAt hE hir hho.out) (Rd.of_own hr10.out) (fun e => by obtain ⟨ad, e1, -, e2⟩ := e; injection e1 with e1; subst e1; exact hCb e2))
          obtain ⟨t0, z0⟩ := hth 0 (by omega)
          obtain ⟨t1, z1⟩ := hth 1 (by omega)
          obtain ⟨t2, z2⟩ := hth 2 (by omega)
          rw [Nat.add_zero] at t0 z0
          obtain ⟨q0, t0⟩ := Option.isSome_iff_exists.1 t0
          obtain ⟨q1, t1⟩ := Option.isSome_iff_exists.1 t1
          obtain ⟨q2, t2⟩ := Option.isSome_iff_exists.1 t2
          have i5 : (k : Int) < fs.length := by omega
          clear K9 H9 m9 hrow9 hr10 hth H10
          obtain ⟨a0, a1, a2, a3, a4, a5⟩ := K10.out.1.c6
          obtain ⟨s0, s1⟩ := K10.out.2.c2
          rw [hi.out] at a1
          go_upto_region 12 with fail
          clear r0 r1 v0 v1 v2 t0 t1 t2 z0 z1 z2
          generalize ((w9.setCell ⟨gC, k * 3, none⟩ (.int .i64 y.k)).setCell ⟨gC, k * 3 + 1, none⟩ (.int .i64 y.n)).setCell ⟨gC, k * 3 + 2, none⟩ (.string y.s) = w10 at *
          go_wp2_with fail
          refine hput.out.mono ?_
          rintro e w11 ⟨rfl, hto⟩
          have hres : Hid (BagTo w w11 lo b p fs (setAt rs i k y) t) := BagTo.trans (t1 := t) (t := t) m10.out (fun k hk => .inl hk) hto
          clear hput hto m10
          go_wp2
          go_ret
          exact ⟨by rw [hAE.out]; rfl, by rw [hAR.out]; exact hres.out⟩
        · rw [if_pos (by simpa using he)] at hAR
          have hres : Hid (BagTo w w9 lo b p fs rs t) := ⟨t, H9.out, m9.out, fun k hk => .inl hk⟩
          clear K9 H9 m9 hrow9
          have he2 : ((fitA p fs vals x).2 != 0) = true := by simpa using he
          generalize (fitA p fs vals x).2 = E at *
          go_wp2
          go_ret
          exact ⟨by rw [hAE.out]; rfl, by rw [hAR.out]; exact hres.out⟩
  · by_cases hop1 : x.op = 1
    · have hm1 : 1 ≤ x.a ∧ x.a ≤ c.m := by
        unfold ownB at ho
        rw [hop1] at ho
        simpa using ho
      obtain ⟨i, hi, hir⟩ : ∃ i : Nat, x.a = (i : Int) + 1 ∧ i < rs.length := ⟨(x.a - 1).toNat, by omega, by omega⟩
      have hAE := hid (show actE p fs vals rs x = 0 from by unfold actE; rw [if_neg hop, if_neg (by omega)])
      have hAR := hid (show actR p fs vals rs x = markAt rs i (!decide (x.c = 0)) from by unfold actR; rw [if_neg hop, if_pos hop1, show (x.a - 1).toNat = i by omega])
      rw [hop1] at a0
      rw [hi] at a1
      have hqM := hid (bagMark_any lo b i p (!decide (x.c = 0)) fs rs t w4 H4.out (Nat.le_trans hlo m4.out.size) hE hir)
      clear hop hop1 hm1 hi k3 hO4
      go_wp2_with fail
      refine hqM.out.mono ?_
      rintro e w5 ⟨rfl, hto⟩
      have hres : Hid (BagTo w w5 lo b p fs (markAt rs i (!decide (x.c = 0))) t) := BagTo.trans (t1 := t) (t := t) m4.out (fun k hk => .inl hk) hto
      clear hqM hto m4 H4
      go_wp2
      go_ret
      exact ⟨by rw [hAE.out]; rfl, by rw [hAR.out]; exact hres.out⟩
    · by_cases hop2 : x.op = 2
      · have hAE := hid (show actE p fs vals rs x = (if 300 ≤ rs.length then 3 else 0) from by unfold actE; rw [if_neg hop, if_pos hop2])
        have hAR := hid (show actR p fs vals rs x = (if 300 ≤ rs.length then rs else rs ++ [blank fs]) from by unfold actR; rw [if_neg hop, if_neg hop1, if_pos hop2])
        rw [hop2] at a0
        obtain ⟨u0, u1, u2⟩ := k3.out.c3
        have hqB := hid (Blank_any A1 fs.length d1 fs w4 hO4.out (okT_iff.1 hE).2.1)
        clear hop hop1 hO4 hop2
        go_wp2_with fail
        refine hqB.out.mono ?_
        rintro e w5 ⟨B, d, rfl, hrow, hx5⟩
        obtain ⟨w6, g4, e6, h6, s6, k6, x6⟩ := newB w5 [.bool false, .slice B fs.length d] 69
        go_upto_region 17 with fail
        simp only [e6.out, h6.out]
        clear e6 h6 s6
        have H6 := hid ((H4.out.ext hx5).ext x6)
        have m6 := hid ((m4.out.ext hx5).ext x6)
        have hrow6 := hid (x6.own hrow)
        have hbw := hid (show b < w4.heap.size from by have := m4.out.size; omega)
        have hlen := hE.len
        have hqA := hid (bagAppend_any lo b p (if 300 ≤ rs.length then 3 else 0) fs rs (if 300 ≤ rs.length then rs else rs ++ [blank fs]) (blank fs) B d t w6 H6.out (Nat.le_trans hlo m6.out.size) hE (okT_blank hE) (Rd.of_own hrow6.out)
          (fun e => by obtain ⟨ad, e1, hn, e2⟩ := e; obtain ⟨g, f1, f2, f3⟩ := own_blk hrow6.out hn; rw [e1] at f1; injection f1 with f1; subst f1; simp only at e2; have := hbw.out; omega)
          (fun h => by
            split at h
            · cases h
            · rename_i h2; rw [if_neg h2]; exact ⟨rfl, by omega⟩)
          (fun h => by
            split at h
            · rename_i h2; rw [if_pos h2, if_pos h2]; exact ⟨rfl, rfl, by omega⟩
            · exact absurd rfl h))
        rw [← hAR.out, ← hAE.out] at hqA
        obtain ⟨z0, z1⟩ := k6.c2
        change Hid (Calls Tryz.prog 45 #[_, .agg #[.bool false, _]] _ _) at hqA
        obtain ⟨E, hEq⟩ : ∃ E, E = actE p fs vals rs x := ⟨_, rfl⟩
        obtain ⟨R, hRq⟩ : ∃ R, R = actR p fs vals rs x := ⟨_, rfl⟩
        rw [← hEq, ← hRq] at hqA
        have hEq := hid hEq
        have hRq := hid hRq
        clear hqB hrow hx5 H4 m4 x6 k6 u0 u1 u2 H6 hrow6
        go_wp2_with fail
        refine hqA.out.mono ?_
        rintro e w7 ⟨n, rfl, hto⟩
        have hres : Hid (BagTo w w7 lo b p fs R t) := BagTo.trans (t1 := t) (t := t) m6.out (fun k hk => .inl hk) hto
        clear hqA hto m6
        go_wp2
        go_ret
        exact ⟨by rw [← hEq.out]; rfl, by rw [← hRq.out]; exact hres.out⟩
      · have hAE := hid (show actE p fs vals rs x = 0 from by unfold actE; rw [if_neg hop, if_neg hop2])
        have hAR := hid (show actR p fs vals rs x = rs from by unfold actR; rw [if_neg hop, if_neg hop1, if_neg hop2])
        have hres : Hid (BagTo w w4 lo b p fs rs t) := ⟨t, H4.out, m4.out, fun k hk => .inl hk⟩
        clear H4 m4 hO4 k3
        go_wp2
        go_ret
        exact ⟨by rw [hAE.out]; rfl, by rw [hAR.out]; exact hres.out⟩
open Go.RowKit Go.Shelf
theorem sameValue_any (x : Vl) (w : World) : Calls Tryz.prog 132 #[.agg #[.int .i64 x.k, .int .i64 x.n, .string x.s], .agg #[.int .i64 x.k, .int .i64 x.n, .string x.s]] w (Give (.bool true) w) := by
  obtain ⟨w1, g, e1, h1, s1, k1, x1⟩ := newB w [.int .i64 x.k, .int .i64 x.n, .string x.s] 66
  obtain ⟨w2, g2, e2, h2, s2, k2, x2⟩ := newB w1 [.int .i64 x.k, .int .i64 x.n, .string x.s] 66
  have h3 := s1.out.symm.trans h2.out
  obtain ⟨a0, a1, a2⟩ := (k1.ext x2).c3
  obtain ⟨b0, b1, b2⟩ := k2.c3
  have hx := hid (x1.trans x2)
  clear k1 k2 x1 x2
  go_enter Tryz.func132, Tryz.ntmps132
  go_upto_region 1 with fail
  simp only [e1.out, e2.out, h1.out, h3]
  clear e1 h1 s1 e2 h2 s2 h3
  go_wp2
  go_ret
  exact ⟨by simp, hx.out⟩
theorem sameValues_any (A B : Option Addr) (n c d : Nat) (l : List Vl) (w : World) (hl : RdV w A n c l) (hl' : RdV w B n d l) : Calls Tryz.prog 97 #[.slice A n c, .slice B n d] w (Give (.bool true) w) := by
  have hmx := Rd.max hl
  have hs := hid (fun x w' => sameValue_any x w')
  go_enter Tryz.func97, Tryz.ntmps97
  go_wp2_with fail
  go_loopw [5] (fun i wr => ∃ k : Nat, k ≤ n ∧ i = .int .i64 k ∧ Hid (Ext w wr)) (fun i _ => n - (intOf i).toNat)
  case atStart => exact ⟨0, by omega, rfl, Ext.refl w⟩
  case round =>
    obtain ⟨k, hk, rfl, hx⟩ := hrel
    by_cases hlt : k < n
    · obtain ⟨ad, rfl, x0, x1, x2⟩ := (hl.ext hx.out).at_ hlt
      obtain ⟨bd, rfl, y0, y1, y2⟩ := (hl'.ext hx.out).at_ hlt
      have hki : (k : Int) < (n : Int) := by omega
      generalize vth l k = x at *
      clear hl hl'
      rename_i wr
      go_upto_region 6 with fail
      have xa := (Ext.refl wr).drew_right
      refine region_J (fun w' => Ext wr w') 10 (by kernel_rfl) ?_
      generalize wr.drew = da at xa ⊢
      refine JR 0 (v := ?va1) rfl (by kernel_rfl) rfl ?ya1 xa ?ra1
      case ya1 => (intro w hw; (go_simp; with_reducible rfl))
      simp only [Act.put, lyA, lyB, lyC, lyD, lyE, lyF]
      refine JR 1 (v := ?va2) rfl (by kernel_rfl) rfl ?ya2 xa ?ra2
      case ya2 => (intro w hw; (go_simp; with_reducible rfl))
      simp only [Act.put, lyA, lyB, lyC, lyD, lyE, lyF]
      refine JR 2 (v := ?va3) rfl (by kernel_rfl) rfl ?ya3 xa ?ra3
      case ya3 => (intro w hw; (go_simp; with_reducible rfl))
      simp only [Act.put, lyA, lyB, lyC, lyD, lyE, lyF]
      refine JR 3 (v := ?va4) rfl (by kernel_rfl) rfl ?ya4 xa ?ra4
      case ya4 => (intro w hw; have a0 := hw.cell x0; have a1 := hw.cell x1; have a2 := hw.cell x2; have b0 := hw.cell y0; have b1 := hw.cell y1; have b2 := hw.cell y2; (go_simp; with_reducible rfl))
      simp only [Act.put, lyA, lyB, lyC, lyD, lyE, lyF]
      refine JR 4 (v := ?va5) rfl (by kernel_rfl) rfl ?ya5 xa ?ra5
      case ya5 => (intro w hw; (go_simp; with_reducible rfl))
      simp only [Act.put, lyA, lyB, lyC, lyD, lyE, lyF]
      refine JR 5 (v := ?va6) rfl (by kernel_rfl) rfl ?ya6 xa ?ra6
      case ya6 => (intro w hw; (go_simp; with_reducible rfl))
      simp only [Act.put, lyA, lyB, lyC, lyD, lyE, lyF]
      refine JR 6 (v := ?va7) rfl (by kernel_rfl) rfl ?ya7 xa ?ra7
      case ya7 => (intro w hw; (go_simp; with_reducible rfl))
      simp only [Act.put, lyA, lyB, lyC, lyD, lyE, lyF]
      refine JR 7 (v := ?va8) rfl (by kernel_rfl) rfl ?ya8 xa ?ra8
      case ya8 => (intro w hw; have a0 := hw.cell x0; have a1 := hw.cell x1; have a2 := hw.cell x2; have b0 := hw.cell y0; have b1 := hw.cell y1; have b2 := hw.cell y2; (go_simp; with_reducible rfl))
      simp only [Act.put, lyA, lyB, lyC, lyD, lyE, lyF]
      refine J_one 8 rfl (by kernel_rfl) (fun K hK => ?_)
      go_simp
      refine (hs.out x _).mono ?_
      rintro e9 wa9 ⟨rfl, hxa9⟩
      refine hK _ _ ⟨fun _ => ((xa).trans hxa9), ?_⟩
      clear hK K
      try simp only [Act.put, lyA, lyB, lyC, lyD, lyE, lyF]
      have xa9 := ((xa).trans hxa9)
      refine JR 9 (v := ?va10) rfl (by kernel_rfl) rfl ?ya10 xa9 ?ra10
      case ya10 => (intro w hw; (go_simp; with_reducible rfl))
      simp only [Act.put, lyA, lyB, lyC, lyD, lyE, lyF]
      refine J_done (by kernel_rfl) (OnlyOn.normal ?_)
      have hx9 := hid (hx.out.trans xa9)
      clear hs x0 x1 x2 y0 y1 y2
      go_wp2
      go_roundw
      case rel => exact ⟨k + 1, by omega, by go_num, hx9⟩
      case measure => simp [intOf]; omega
    · obtain rfl : k = n := by omega
      go_wp2
      go_ret
      exact ⟨rfl, hx.out⟩
theorem sameRecord_any (q : Bool) (A B : Option Addr) (n c d : Nat) (l : List Vl) (w : World) (hl : RdV w A n c l) (hl' : RdV w B n d l) : Calls Tryz.prog 55 #[.agg #[.bool q, .slice A n c], .agg #[.bool q, .slice B n d]] w (Give (.bool true) w) := by
  obtain ⟨w1, g, e1, h1, s1, k1, x1⟩ := newB w [.bool q, .slice A n c] 69
  obtain ⟨w2, g2, e2, h2, s2, k2, x2⟩ := newB w1 [.bool q, .slice B n d] 69
  have h3 := s1.out.symm.trans h2.out
  obtain ⟨a0, a1⟩ := (k1.ext x2).c2
  obtain ⟨b0, b1⟩ := k2.c2
  have hx := hid (x1.trans x2)
  have hs := hid (sameValues_any A B n c d l w2 (hl.ext hx.out) (hl'.ext hx.out))
  clear k1 k2 x1 x2 hl hl'
  go_enter Tryz.func55, Tryz.ntmps55
  go_upto_region 1 with fail
  simp only [e1.out, e2.out, h1.out, h3]
  clear e1 h1 s1 e2 h2 s2 h3
  cases q
  all_goals
    go_wp2_with fail
    refine hs.out.mono ?_
    rintro e w3 ⟨rfl, hx3⟩
    go_wp2
    go_ret
    exact ⟨rfl, hx.out.trans hx3⟩
theorem sameFields_any (A B : Option Addr) (n c d : Nat) (l : List Fd) (w : World) (hl : RdF w A n c l) (hl' : RdF w B n d l) : Calls Tryz.prog 54 #[.slice A n c, .slice B n d] w (Give (.bool true) w) := by
  have hmx := Rd.max hl
  go_enter Tryz.func54, Tryz.ntmps54
  go_wp2_with fail
  go_loopw [5] (fun i wr => ∃ k : Nat, k ≤ n ∧ i = .int .i64 k ∧ Hid (Ext w wr)) (fun i _ => n - (intOf i).toNat)
  case atStart => exact ⟨0, by omega, rfl, Ext.refl w⟩
  case round =>
    obtain ⟨k, hk, rfl, hx⟩ := hrel
    by_cases hlt : k < n
    · obtain ⟨ad, rfl, x0, x1, x2, x3⟩ := (hl.ext hx.out).at_ hlt
      obtain ⟨bd, rfl, y0, y1, y2, y3⟩ := (hl'.ext hx.out).at_ hlt
      have hki : (k : Int) < (n : Int) := by omega
      have hq := ne64 (fth l k) (fth l k)
      have he : eqF (fth l k) (fth l k) = true := eqF_iff.2 rfl
      rw [he] at hq
      unfold fd at hq
      generalize fth l k = x at *
      clear hl hl' he
      go_upto_region 6 with fail
      go_quiet (fail)
      go_wp2
      go_roundw
      case rel => exact ⟨k + 1, by omega, by go_num, hx.out.drewN_right _⟩
      case measure => simp [intOf]; omega
    · obtain rfl : k = n := by omega
      go_wp2
      go_ret
      exact ⟨rfl, hx.out⟩
open Go.RowKit Go.Shelf
theorem same_any (p : Int) (A : Option Addr) (n c : Nat) (B : Option Addr) (m d : Nat) (A' : Option Addr) (c' : Nat) (B' : Option Addr) (d' : Nat) (fs : List Fd) (rs : List Rc) (w : World) (hf : RdF w A n c fs) (hr : RdR w B m d rs) (hf' : RdF w A' n c' fs) (hr' : RdR w B' m d' rs) :
    Calls Tryz.prog 19 #[tb p A n c B m d, tb p A' n c' B' m d'] w (Give (.bool true) w) := by
  have hrm := hr.max
  unfold tb
  obtain ⟨w1, g, e1, h1, s1, k1, x1⟩ := newB w [.int .i64 p, .slice A n c, .slice B m d] 25
  obtain ⟨w2, g2, e2, h2, s2, k2, x2⟩ := newB w1 [.int .i64 p, .slice A' n c', .slice B' m d'] 25
  have h3 := s1.out.symm.trans h2.out
  have k1 := hid (k1.ext x2)
  have k2 := hid k2
  obtain ⟨a0, a1, a2⟩ := k1.out.c3
  obtain ⟨b0, b1, b2⟩ := k2.out.c3
  have hx := hid (x1.trans x2)
  have hs := hid (sameFields_any A A' n c c' fs w2 (hf.ext hx.out) (hf'.ext hx.out))
  have hr := hid (hr.ext hx.out)
  have hr' := hid (hr'.ext hx.out)
  clear x1 x2 hf hf'
  go_enter Tryz.func19, Tryz.ntmps19
  go_upto_region 1 with fail
  simp only [e1.out, e2.out, h1.out, h3]
  clear e1 h1 s1 e2 h2 s2 h3
  go_wp2_with fail
  refine hs.out.mono ?_
  rintro e w3 ⟨rfl, hx3⟩
  have j1 := hid (k1.out.ext hx3)
  have j2 := hid (k2.out.ext hx3)
  have q1 := hid (hr.out.ext hx3)
  have q2 := hid (hr'.out.ext hx3)
  have hy := hid (hx.out.trans hx3)
  clear hs k1 k2 hr hr' a0 a1 a2 b0 b1 b2
  obtain ⟨a0, a1, a2⟩ := j1.out.c3
  obtain ⟨b0, b1, b2⟩ := j2.out.c3
  clear hx hx3
  go_wp2_with fail
  clear a0 a1 a2 b0 b1 b2
  go_loopw [5] (fun i wr => ∃ k : Nat, k ≤ m ∧ i = .int .i64 k ∧ Hid (Ext w3 wr)) (fun i _ => m - (intOf i).toNat)
  case atStart => exact ⟨0, by omega, rfl, Ext.refl w3⟩
  case round =>
    obtain ⟨k, hk, rfl, hx⟩ := hrel
    obtain ⟨a0, a1, a2⟩ := (j1.out.ext hx.out).c3
    obtain ⟨b0, b1, b2⟩ := (j2.out.ext hx.out).c3
    by_cases hlt : k < m
    · obtain ⟨ad, C, v1, v2, rfl, x0, x1, hv⟩ := (q1.out.ext hx.out).at_ hlt
      obtain ⟨bd, C', v1', v2', rfl, y0, y1, hv'⟩ := (q2.out.ext hx.out).at_ hlt
      obtain rfl : v1 = v1' := by rw [← hv.len, ← hv'.len]
      have hki : (k : Int) < (m : Int) := by omega
      generalize rth rs k = x at *
      rename_i wr
      have hq := hid (fun w' (hx : Ext wr w') => sameRecord_any x.gone C C' v1 v2 v2' x.v w' (hv.ext hx) (hv'.ext hx))
      clear hv hv' q1 q2
      go_upto_region 6 with fail
      have xa := (Ext.refl wr).drew_right
      refine region_J (fun w' => Ext wr w') 12 (by kernel_rfl) ?_
      generalize wr.drew = da at xa ⊢
      refine JR 0 (v := ?va1) rfl (by kernel_rfl) rfl ?ya1 xa ?ra1
      case ya1 => (intro w hw; (go_simp; with_reducible rfl))
      simp only [Act.put, lyA, lyB, lyC, lyD, lyE, lyF]
      refine JR 1 (v := ?va2) rfl (by kernel_rfl) rfl ?ya2 xa ?ra2
      case ya2 => (intro w hw; have z0 := hw.cell x0; have z1 := hw.cell x1; have u0 := hw.cell y0; have u1 := hw.cell y1; obtain ⟨s0, s1, s2⟩ := ((j1.out.ext hx.out).ext hw).c3; obtain ⟨t0, t1, t2⟩ := ((j2.out.ext hx.out).ext hw).c3; (go_simp; with_reducible rfl))
      simp only [Act.put, lyA, lyB, lyC, lyD, lyE, lyF]
      refine JR 2 (v := ?va3) rfl (by kernel_rfl) rfl ?ya3 xa ?ra3
      case ya3 => (intro w hw; (go_simp; with_reducible rfl))
      simp only [Act.put, lyA, lyB, lyC, lyD, lyE, lyF]
      refine JR 3 (v := ?va4) rfl (by kernel_rfl) rfl ?ya4 xa ?ra4
      case ya4 => (intro w hw; (go_simp; with_reducible rfl))
      simp only [Act.put, lyA, lyB, lyC, lyD, lyE, lyF]
      refine JR 4 (v := ?va5) rfl (by kernel_rfl) rfl ?ya5 xa ?ra5
      case ya5 => (intro w hw; have z0 := hw.cell x0; have z1 := hw.cell x1; have u0 := hw.cell y0; have u1 := hw.cell y1; obtain ⟨s0, s1, s2⟩ := ((j1.out.ext hx.out).ext hw).c3; obtain ⟨t0, t1, t2⟩ := ((j2.out.ext hx.out).ext hw).c3; (go_simp; with_reducible rfl))
      simp only [Act.put, lyA, lyB, lyC, lyD, lyE, lyF]
      refine JR 5 (v := ?va6) rfl (by kernel_rfl) rfl ?ya6 xa ?ra6
      case ya6 => (intro w hw; (go_simp; with_reducible rfl))
      simp only [Act.put, lyA, lyB, lyC, lyD, lyE, lyF]
      refine JR 6 (v := ?va7) rfl (by kernel_rfl) rfl ?ya7 xa ?ra7
      case ya7 => (intro w hw; have z0 := hw.cell x0; have z1 := hw.cell x1; have u0 := hw.cell y0; have u1 := hw.cell y1; obtain ⟨s0, s1, s2⟩ := ((j1.out.ext hx.out).ext hw).c3; obtain ⟨t0, t1, t2⟩ := ((j2.out.ext hx.out).ext hw).c3; (go_simp; with_reducible rfl))
      simp only [Act.put, lyA, lyB, lyC, lyD, lyE, lyF]
      refine JR 7 (v := ?va8) rfl (by kernel_rfl) rfl ?ya8 xa ?ra8
      case ya8 => (intro w hw; (go_simp; with_reducible rfl))
      simp only [Act.put, lyA, lyB, lyC, lyD, lyE, lyF]
      refine JR 8 (v := ?va9) rfl (by kernel_rfl) rfl ?ya9 xa ?ra9
      case ya9 => (intro w hw; (go_simp; with_reducible rfl))
      simp only [Act.put, lyA, lyB, lyC, lyD, lyE, lyF]
      refine JR 9 (v := ?va10) rfl (by kernel_rfl) rfl ?ya10 xa ?ra10
      case ya10 => (intro w hw; have z0 := hw.cell x0; have z1 := hw.cell x1; have u0 := hw.cell y0; have u1 := hw.cell y1; obtain ⟨s0, s1, s2⟩ := ((j1.out.ext hx.out).ext hw).c3; obtain ⟨t0, t1, t2⟩ := ((j2.out.ext hx.out).ext hw).c3; (go_simp; with_reducible rfl))
      simp only [Act.put, lyA, lyB, lyC, lyD, lyE, lyF]
      refine J_one 10 rfl (by kernel_rfl) (fun K hK => ?_)
      go_simp
      refine (hq.out _ xa).mono ?_
      rintro e9 wa11 ⟨rfl, hxa11⟩
      refine hK _ _ ⟨fun _ => ((xa).trans hxa11), ?_⟩
      clear hK K
      try simp only [Act.put, lyA, lyB, lyC, lyD, lyE, lyF]
      have xa11 := ((xa).trans hxa11)
      refine JR 11 (v := ?va12) rfl (by kernel_rfl) rfl ?ya12 xa11 ?ra12
      case ya12 => (intro w hw; (go_simp; with_reducible rfl))
      simp only [Act.put, lyA, lyB, lyC, lyD, lyE, lyF]
      refine J_done (by kernel_rfl) (OnlyOn.normal ?_)
      have hx9 := hid (hx.out.trans xa11)
      clear hq x0 x1 y0 y1 a0 a1 a2 b0 b1 b2
      go_wp2
      go_roundw
      case rel => exact ⟨k + 1, by omega, by go_num, hx9⟩
      case measure => simp [intOf]; omega
    · obtain rfl : k = m := by omega
      go_wp2
      go_ret
      exact ⟨rfl, hy.out.trans hx.out⟩
open Go.RowKit Go.Shelf Go.MuLone
theorem DeskE.keep {w w' : World} {lo b : Nat} {s p : Int} {fs : List Fd} {rs : List Rc} {mode : Int} {M : Dm} (h : DeskE w lo b s p fs rs mode M) (hk : ∀ k, DeskF M k → w'.heap[k]? = w.heap[k]?) (hs : w.heap.size ≤ w'.heap.size) : DeskE w' lo b s p fs rs mode M := by
  obtain ⟨a, h1, h2, h3⟩ := h
  exact ⟨a, h1, h2.keep hk hs, h3⟩
theorem DeskE.lt {w : World} {lo b : Nat} {s p : Int} {fs : List Fd} {rs : List Rc} {mode : Int} {M : Dm} (h : DeskE w lo b s p fs rs mode M) {k : Nat} (hk : DeskF M k) : lo ≤ k ∧ k < w.heap.size := by
  obtain ⟨a, h1, h2, h3⟩ := h
  exact h2.bd k hk
theorem DeskE.fb {w : World} {lo b : Nat} {s p : Int} {fs : List Fd} {rs : List Rc} {mode : Int} {M : Dm} (h : DeskE w lo b s p fs rs mode M) : DeskF M b := by
  obtain ⟨a, h1, h2, h3⟩ := h
  exact h2.fb
theorem OwTt.both {w : World} {lo : Nat} {fs : List Fd} {rs : List Rc} {A B : Option Addr} {c d : Nat} {rr : List Rr} (h : OwTt w lo fs.length fs rs ⟨A, fs.length, c, B, rs.length, d, rr⟩) : RdF w A fs.length c fs ∧ RdR w B rs.length d rs := ⟨h.rf, h.rr⟩
theorem buffered_law (c : Cg) (fs : List Fd) (rs : List Rc) (vals : List Vl) (acts : List Ac) (mode : Int) (w : World) (h : CgR w c fs rs vals acts) : Calls Tryz.prog 3 #[.agg (cgC c).toArray, .int .i64 mode] w (Give (.bool true) w) := by
  have hmx := h.rx.max
  have hcn := hid h.rf.len
  have hcm := hid h.rr.len
  obtain ⟨w1, g, e1, h1, s1, kg, x1⟩ := newB w (cgC c) 30
  have hc := hid (h.ext x1)
  have hhv := hid (isHeavy_any c fs rs vals acts w1 hc.out)
  have hkn := hid (fun w' => knownChange_any w')
  have hvl := hid (fun k (q : atB c.V c.vn k) => (show k < w1.heap.size from Nat.lt_of_lt_of_le (h.rv.atlt q) x1.size))
  have hgl := hid kg.lt
  replace kg := hid kg
  replace x1 := hid x1
  clear h
  unfold cgC at e1 kg hhv ⊢
  go_enter Tryz.func3, Tryz.ntmps3
  go_upto_region 1 with fail
  simp only [e1.out, h1.out]
  clear e1 h1 s1
  obtain ⟨a0, a1, a2, a3, a4, a5⟩ := kg.out.c6
  go_wp2_with fail
  refine hhv.out.mono ?_
  rintro e w2 ⟨⟨q, rfl⟩, hx2⟩
  have hx2 := hid hx2
  clear hhv
  cases q with
  | true =>
    clear a0 a1 a2 a3 a4 a5
    go_wp2_with fail
    refine (hkn.out _).mono ?_
    rintro e w3 ⟨rfl, hx3⟩
    have hxf := hid (x1.out.trans (hx2.out.trans hx3))
    clear hx2 hx3
    go_wp2
    go_ret
    exact ⟨rfl, hxf.out⟩
  | false =>
    clear a0 a1 a2 a3 a4 a5
    obtain ⟨a0, a1, a2, a3, a4, a5⟩ := (kg.out.ext hx2.out).c6
    by_cases hE : okT c.p fs rs
    · have hB := hid (bagNew_any c.p c.A c.n c.c c.B c.m c.d fs rs w2 (hc.out.rf.ext hx2.out) (hc.out.rr.ext hx2.out) hE)
      have hD := hid (fun w' (hx : Ext w1 w') => deskNew_any c.p c.A c.n c.c c.B c.m c.d fs rs w' (hc.out.rf.ext hx) (hc.out.rr.ext hx) hE)
      have hL := hid (fun w' (hx : Ext w1 w') => logNew_any c.p c.A c.n c.c c.B c.m c.d fs rs w' (hc.out.rf.ext hx) (hc.out.rr.ext hx) hE)
      have hE := hid hE
      unfold tb at hB hD hL
      go_wp2_with fail
      refine hB.out.mono ?_
      rintro e w3 ⟨b, t, rfl, hb3, hx3⟩
      have hb3 := hid hb3
      have hx3 := hid hx3
      have hy3 := hid (hx2.out.trans hx3.out)
      clear hB a0 a1 a2 a3 a4 a5
      obtain ⟨a0, a1, a2, a3, a4, a5⟩ := (kg.out.ext hy3.out).c6
      have hD3 := hid (hD.out w3 hy3.out)
      clear hD
      go_wp2_with fail
      refine hD3.out.mono ?_
      rintro e w4 ⟨d, M, rfl, hd4, hch, hx4⟩
      have hd4 := hid hd4
      have hch := hid hch
      have hx4 := hid hx4
      have hy4 := hid (hy3.out.trans hx4.out)
      clear hD3 a0 a1 a2 a3 a4 a5
      obtain ⟨a0, a1, a2, a3, a4, a5⟩ := (kg.out.ext hy4.out).c6
      have hL4 := hid (hL.out w4 hy4.out)
      clear hL
      go_wp2_with fail
      refine hL4.out.mono ?_
      rintro e w5 ⟨s, L, rfl, hl5, hln, hx5⟩
      have hl5 := hid hl5
      have hln := hid hln
      have hx5 := hid hx5
      have hd5 := hid (hd4.out.ext hx5.out)
      clear hL4 a0 a1 a2 a3 a4 a5
      by_cases hmode : mode < 0 ∨ 4 < mode
      · have hM := hid (Mode_bad mode w5 hd5.out hmode)
        have hbase := hid (show ∀ w', Mv w5 w' (DeskF M) → Ext w w' from fun w' m => Mv.base m (x1.out.trans (hy4.out.trans hx5.out)) (fun k hk => by have := (hd4.out.bd k hk).1; have := x1.out.size; have := hy3.out.size; omega))
        by_cases hm0 : mode < 0
        · clear hmode
          go_wp2_with fail
          refine hM.out.mono ?_
          rintro e w6 ⟨rfl, M6, -, hm6, -⟩
          have hxf := hid (hbase.out w6 hm6)
          clear hM hbase hm6
          go_wp2
          go_ret
          exact ⟨rfl, hxf.out⟩
        · have hm1 : 4 < mode := by omega
          clear hmode
          go_wp2_with fail
          refine hM.out.mono ?_
          rintro e w6 ⟨rfl, M6, -, hm6, -⟩
          have hxf := hid (hbase.out w6 hm6)
          clear hM hbase hm6
          go_wp2
          go_ret
          exact ⟨rfl, hxf.out⟩
      · have hM := hid (Mode_ok mode w5 hd5.out ⟨by rw [hch.out]; rfl, rfl⟩ hmode)
        have hm0 : ¬ mode < 0 := fun e => hmode (.inl e)
        have hm1 : ¬ 4 < mode := fun e => hmode (.inr e)
        clear hmode
        go_wp2_with fail
        refine hM.out.mono ?_
        rintro e w6 ⟨rfl, hd6, hm6⟩
        have hd6 := hid hd6
        have hm6 := hid hm6
        clear hM
        have hfl := hid (fun k (q : LogF s L k) => (show w4.heap.size ≤ k ∧ k < w5.heap.size from hl5.out.lt q))
        have hfd := hid (fun k (q : DeskF M k) => (show w3.heap.size ≤ k ∧ k < w4.heap.size from hd4.out.bd k q))
        have hl6 := hid (hl5.out.keep (w' := w6) (fun k q => hm6.out.at (hfl.out k q).2 (fun e => by have := (hfl.out k q).1; have := (hfd.out k e).2; omega)) hm6.out.size)
        have hBg := hid (Begin_any w6 hl6.out hE.out hln.out)
        go_wp2_with fail
        refine hBg.out.mono ?_
        rintro e w7 ⟨rfl, L7, hl7, ho7, hm7, hF7⟩
        obtain ⟨hT, hX⟩ := Trio.made hb3.out hx3.out hx4.out hx5.out hl5.out hd4.out hd6.out hch.out hm6.out hl7 ho7 hm7 hF7
        have hT := hid hT
        have hX := hid (hx2.out.trans hX)
        have hlo := hid (show w1.heap.size ≤ w2.heap.size from hx2.out.size)
        clear hBg hl6 hfl hfd hl7 hm7 hF7 hd6 hm6 hb3 hd4 hd5 hl5 hch hln hx3 hx4 hx5 hy3 hy4 hx2
        go_upto_region 13 with fail
        go_wp2_with fail
        go_loopw [11] (fun v wr => ∃ (i : Nat) (rs' : List Rc) (t' : Tt) (M' : Dm) (L' : Lm) (at' : Int), i ≤ c.xn ∧ v = .int .i64 i ∧ Hid (okT c.p fs rs') ∧ Hid (rs.length ≤ rs'.length) ∧ Hid (Trio wr w2.heap.size b d s c.p fs rs rs' rs' rs' rs.length mode at' t' M' L') ∧ Hid (Ext w1 wr)) (fun v _ => c.xn - (intOf v).toNat)
        case atStart => exact ⟨0, rs, t, M, L7, 0, by omega, rfl, hE, hid (Nat.le_refl _), hT, hX⟩
        case round =>
          clear hT hX ho7
          obtain ⟨i, rs', t, M, L, at', hi, rfl, hE', hle, hT, hX⟩ := hrel
          obtain ⟨a0, a1, a2, a3, a4, a5⟩ := (kg.out.ext hX.out).c6
          by_cases hlt : i < c.xn
          · obtain ⟨ad, hA, r0, r1, r2, r3, r4, r5⟩ := (hc.out.rx.ext hX.out).at_ hlt
            rw [hA] at a5
            clear hA
            generalize xth acts i = x at *
            obtain ⟨wA, ga, eA, hga, sA, ka, xA⟩ := newB wr (acC x) 46
            have eA := eA.out
            have hga' := hga.out
            have hgr := hid (show wr.heap.size = ga from hga.out)
            have ka := hid ka
            have hXA := hid (hX.out.trans xA)
            have hTA := hid (hT.out.ext xA)
            have hnb := hid (show ¬ bF b t ga ∧ ¬ DeskF M ga ∧ ¬ LogF s L ga from ⟨fun e => by have := (hT.out.bag.lt e).2; have := hgr.out; omega, fun e => by have := (hT.out.desk.lt e).2; have := hgr.out; omega, fun e => by have := (hT.out.log.lt e).2; have := hgr.out; omega⟩)
            have hgo := hid (show ¬ bF b t g ∧ ¬ DeskF M g ∧ ¬ LogF s L g from ⟨fun e => by have := (hT.out.bag.lt e).1; have := hgl.out; have := hlo.out; omega, fun e => by have := (hT.out.desk.lt e).1; have := hgl.out; have := hlo.out; omega, fun e => by have := (hT.out.log.lt e).1; have := hgl.out; have := hlo.out; omega⟩)
            have hgaw := hid (show g < wA.heap.size ∧ ga < wA.heap.size from ⟨Nat.lt_of_lt_of_le hgl.out hXA.out.size, ka.out.lt⟩)
            unfold acC at eA ka
            go_upto_region 16 with fail
            try simp only [eA, hga']
            clear eA hga' r0 r1 r2 r3 r4 r5 a0 a1 a2 a3 a4 a5 sA hga hT hX xA
            have hkA := hid (kg.out.ext hXA.out)
            obtain ⟨a0, a1, a2, a3, a4, a5⟩ := hkA.out.c6
            obtain ⟨b0, b1, b2, b3, b4, b5⟩ := ka.out.c6
            have hown := hid (ownAct_any c x wA)
            unfold cgC acC at hown
            go_wp2_with fail
            refine hown.out.mono ?_
            rintro e wB ⟨rfl, hxB⟩
            clear hown a0 a1 a2 a3 a4 a5 b0 b1 b2 b3 b4 b5
            have hXB := hid (hXA.out.trans hxB)
            have hTB := hid (hTA.out.ext hxB)
            have hkB := hid (hkA.out.ext hxB)
            have kaB := hid (ka.out.ext hxB)
            have hgB := hid (show g < wB.heap.size ∧ ga < wB.heap.size from ⟨Nat.lt_of_lt_of_le hgaw.out.1 hxB.size, Nat.lt_of_lt_of_le hgaw.out.2 hxB.size⟩)
            clear hXA hTA hkA ka hxB hgaw
            cases hown : ownB c.m x with
            | false =>
              go_wp2
              go_roundw
              case rel => exact ⟨i + 1, rs', t, M, L, at', by omega, by go_num, hE', hle, hTB, hXB⟩
              case measure => simp [intOf]; omega
            | true =>
              have hown := hid hown
              have hmr := hid (show c.m ≤ rs'.length from by have := hcm.out; have := hle.out; omega)
              have hact := okT_act hE'.out vals (x := x) (m := c.m) hown.out hmr.out
              have hE2 := hid hact.1
              have hle2 := hid (Nat.le_trans hle.out hact.2)
              clear hact
              go_upto_region 17 with fail
              have hTd := hid (hTB.out.ext (Ext.refl wB).drew_right)
              have hXd := hid (hXB.out.trans (Ext.refl wB).drew_right)
              have hgd := hid (show g < wB.drew.heap.size ∧ ga < wB.drew.heap.size from hgB.out)
              have xd : (fun w' => Bk w' g [.int .i64 c.p, .slice c.A c.n c.c, .slice c.B c.m c.d, .slice c.G c.gn c.gc, .slice c.V c.vn c.vc, .slice c.X c.xn c.xc] 30 ∧ Bk w' ga [.int .i64 x.op, .int .i64 x.a, .int .i64 x.b, .int .i64 x.c, .string x.s, .string x.t] 46) wB.drew := ⟨hkB.out.ext (Ext.refl wB).drew_right, kaB.out.ext (Ext.refl wB).drew_right⟩
              refine region_J (fun w' => Bk w' g [.int .i64 c.p, .slice c.A c.n c.c, .slice c.B c.m c.d, .slice c.G c.gn c.gc, .slice c.V c.vn c.vc, .slice c.X c.xn c.xc] 30 ∧ Bk w' ga [.int .i64 x.op, .int .i64 x.a, .int .i64 x.b, .int .i64 x.c, .string x.s, .string x.t] 46) 15 (by kernel_rfl) ?_
              generalize wB.drew = dd at * 
              refine JR 0 (v := ?vd1) rfl (by kernel_rfl) rfl ?yd1 xd ?rd1
              case yd1 => (intro w hw; (go_simp; with_reducible rfl))
              simp only [Act.put, lyA, lyB, lyC, lyD, lyE, lyF]
              refine JR 1 (v := ?vd2) rfl (by kernel_rfl) rfl ?yd2 xd ?rd2
              case yd2 => (intro w hw; obtain ⟨a0, a1, a2, a3, a4, a5⟩ := hw.1.c6; obtain ⟨b0, b1, b2, b3, b4, b5⟩ := hw.2.c6; (go_simp; with_reducible rfl))
              simp only [Act.put, lyA, lyB, lyC, lyD, lyE, lyF]
              refine JR 2 (v := ?vd3) rfl (by kernel_rfl) rfl ?yd3 xd ?rd3
              case yd3 => (intro w hw; obtain ⟨a0, a1, a2, a3, a4, a5⟩ := hw.1.c6; obtain ⟨b0, b1, b2, b3, b4, b5⟩ := hw.2.c6; (go_simp; with_reducible rfl))
              simp only [Act.put, lyA, lyB, lyC, lyD, lyE, lyF]
              refine JR 4 (v := ?vd4) rfl (by kernel_rfl) rfl ?yd4 xd ?rd4
              case yd4 => (intro w hw; (go_simp; with_reducible rfl))
              simp only [Act.put, lyA, lyB, lyC, lyD, lyE, lyF]
              refine JR 5 (v := ?vd5) rfl (by kernel_rfl) rfl ?yd5 xd ?rd5
              case yd5 => (intro w hw; obtain ⟨a0, a1, a2, a3, a4, a5⟩ := hw.1.c6; obtain ⟨b0, b1, b2, b3, b4, b5⟩ := hw.2.c6; (go_simp; with_reducible rfl))
              simp only [Act.put, lyA, lyB, lyC, lyD, lyE, lyF]
              refine JR 6 (v := ?vd6) rfl (by kernel_rfl) rfl ?yd6 xd ?rd6
              case yd6 => (intro w hw; obtain ⟨a0, a1, a2, a3, a4, a5⟩ := hw.1.c6; obtain ⟨b0, b1, b2, b3, b4, b5⟩ := hw.2.c6; (go_simp; with_reducible rfl))
              simp only [Act.put, lyA, lyB, lyC, lyD, lyE, lyF]
              refine JR 8 (v := ?vd7) rfl (by kernel_rfl) rfl ?yd7 xd ?rd7
              case yd7 => (intro w hw; (go_simp; with_reducible rfl))
              simp only [Act.put, lyA, lyB, lyC, lyD, lyE, lyF]
              refine JR 9 (v := ?vd8) rfl (by kernel_rfl) rfl ?yd8 xd ?rd8
              case yd8 => (intro w hw; obtain ⟨a0, a1, a2, a3, a4, a5⟩ := hw.1.c6; obtain ⟨b0, b1, b2, b3, b4, b5⟩ := hw.2.c6; (go_simp; with_reducible rfl))
              simp only [Act.put, lyA, lyB, lyC, lyD, lyE, lyF]
              refine JR 10 (v := ?vd9) rfl (by kernel_rfl) rfl ?yd9 xd ?rd9
              case yd9 => (intro w hw; obtain ⟨a0, a1, a2, a3, a4, a5⟩ := hw.1.c6; obtain ⟨b0, b1, b2, b3, b4, b5⟩ := hw.2.c6; (go_simp; with_reducible rfl))
              simp only [Act.put, lyA, lyB, lyC, lyD, lyE, lyF]
              refine J_one 3 rfl (by kernel_rfl) (fun K hK => ?_)
              have hdir := hid (direct_any w2.heap.size b c.p fs rs' t c x vals dd hTd.out.bag (Nat.le_trans hTd.out.bag.lo (Nat.le_of_lt hTd.out.bag.bk.lt)) hE'.out (hc.out.rv.ext hXd.out) (fun k q e => by have := hvl.out k q; have := (hTd.out.bag.lt e).1; have := hlo.out; omega) hmr.out hown.out)
              unfold cgC acC at hdir
              go_simp
              refine hdir.out.mono ?_
              rintro e9 wd10 ⟨rfl, hbt⟩
              obtain ⟨t1, hT1, -⟩ := hTd.out.turnB hbt
              obtain ⟨-, -, hmd10, -⟩ := hbt
              have hT1 := hid hT1
              have hX1 := hid (Mv.base hmd10 hXd.out (fun k e => by subst e; have := hTd.out.bag.lo; have := hlo.out; omega))
              have hgd1 := hid (show g < wd10.heap.size ∧ ga < wd10.heap.size from ⟨Nat.lt_of_lt_of_le hgd.out.1 hmd10.size, Nat.lt_of_lt_of_le hgd.out.2 hmd10.size⟩)
              clear hdir
              refine hK _ _ ⟨fun _ => ⟨(xd).1.keep (hmd10.at hgd.out.1 (fun e => hgo.out.1 (.inl e))), (xd).2.keep (hmd10.at hgd.out.2 (fun e => hnb.out.1 (.inl e)))⟩, ?_⟩
              clear hK K
              try simp only [Act.put, lyA, lyB, lyC, lyD, lyE, lyF]
              have xd10 : (fun w' => Bk w' g [.int .i64 c.p, .slice c.A c.n c.c, .slice c.B c.m c.d, .slice c.G c.gn c.gc, .slice c.V c.vn c.vc, .slice c.X c.xn c.xc] 30 ∧ Bk w' ga [.int .i64 x.op, .int .i64 x.a, .int .i64 x.b, .int .i64 x.c, .string x.s, .string x.t] 46) wd10 := ⟨(xd).1.keep (hmd10.at hgd.out.1 (fun e => hgo.out.1 (.inl e))), (xd).2.keep (hmd10.at hgd.out.2 (fun e => hnb.out.1 (.inl e)))⟩
              refine J_one 7 rfl (by kernel_rfl) (fun K hK => ?_)
              have hbuf := hid (buffered_any c x vals wd10 hT1.out.desk hE'.out (hc.out.rv.ext hX1.out) (fun k q => Nat.lt_of_lt_of_le (hvl.out k q) hlo.out) (by rw [hcm.out]; exact hown.out))
              unfold cgC acC at hbuf
              go_simp
              refine hbuf.out.mono ?_
              rintro e9 wd11 ⟨rfl, at2, hbt⟩
              have hdl := hid (fun k (q : DeskF M k) => (hT1.out.desk.lt q).1)
              obtain ⟨M1, hT2, -⟩ := hT1.out.turnD hbt
              obtain ⟨-, -, hmd11, -⟩ := hbt
              have hT2 := hid hT2
              have hX2 := hid (Mv.base hmd11 hX1.out (fun k e => by have := hdl.out k e; have := hlo.out; omega))
              have hgd2 := hid (show g < wd11.heap.size ∧ ga < wd11.heap.size from ⟨Nat.lt_of_lt_of_le hgd1.out.1 hmd11.size, Nat.lt_of_lt_of_le hgd1.out.2 hmd11.size⟩)
              clear hbuf
              refine hK _ _ ⟨fun _ => ⟨(xd10).1.keep (hmd11.at hgd1.out.1 (fun e => hgo.out.2.1 e)), (xd10).2.keep (hmd11.at hgd1.out.2 (fun e => hnb.out.2.1 e))⟩, ?_⟩
              clear hK K
              try simp only [Act.put, lyA, lyB, lyC, lyD, lyE, lyF]
              have xd11 : (fun w' => Bk w' g [.int .i64 c.p, .slice c.A c.n c.c, .slice c.B c.m c.d, .slice c.G c.gn c.gc, .slice c.V c.vn c.vc, .slice c.X c.xn c.xc] 30 ∧ Bk w' ga [.int .i64 x.op, .int .i64 x.a, .int .i64 x.b, .int .i64 x.c, .string x.s, .string x.t] 46) wd11 := ⟨(xd10).1.keep (hmd11.at hgd1.out.1 (fun e => hgo.out.2.1 e)), (xd10).2.keep (hmd11.at hgd1.out.2 (fun e => hnb.out.2.1 e))⟩
              refine J_one 11 rfl (by kernel_rfl) (fun K hK => ?_)
              have hlg := hid (logged_any c.m c x vals wd11 hT2.out.log hE.out hE'.out hT2.out.one (hc.out.rv.ext hX2.out) (fun k q => Nat.lt_of_lt_of_le (hvl.out k q) hlo.out) (hc.out.rf.ext hX2.out) hmr.out hown.out)
              unfold cgC acC at hlg
              go_simp
              refine hlg.out.mono ?_
              rintro e9 wd12 ⟨rfl, hbt⟩
              have hdl := hid (fun k (q : LogF s L k) => (hT2.out.log.lt q).1)
              obtain ⟨L1, hT3, -⟩ := hT2.out.turnL hbt
              obtain ⟨-, -, -, hmd12, -⟩ := hbt
              have hT3 := hid hT3
              have hX3 := hid (Mv.base hmd12 hX2.out (fun k e => by have := hdl.out k e; have := hlo.out; omega))
              clear hlg
              refine hK _ _ ⟨fun _ => ⟨(xd11).1.keep (hmd12.at hgd2.out.1 (fun e => hgo.out.2.2 e)), (xd11).2.keep (hmd12.at hgd2.out.2 (fun e => hnb.out.2.2 e))⟩, ?_⟩
              clear hK K
              try simp only [Act.put, lyA, lyB, lyC, lyD, lyE, lyF]
              have xd12 : (fun w' => Bk w' g [.int .i64 c.p, .slice c.A c.n c.c, .slice c.B c.m c.d, .slice c.G c.gn c.gc, .slice c.V c.vn c.vc, .slice c.X c.xn c.xc] 30 ∧ Bk w' ga [.int .i64 x.op, .int .i64 x.a, .int .i64 x.b, .int .i64 x.c, .string x.s, .string x.t] 46) wd12 := ⟨(xd11).1.keep (hmd12.at hgd2.out.1 (fun e => hgo.out.2.2 e)), (xd11).2.keep (hmd12.at hgd2.out.2 (fun e => hnb.out.2.2 e))⟩
              refine JR 12 (v := ?vd13) rfl (by kernel_rfl) rfl ?yd13 xd12 ?rd13
              case yd13 => (intro w hw; (go_simp; with_reducible rfl))
              simp only [Act.put, lyA, lyB, lyC, lyD, lyE, lyF]
              refine JR 13 (v := ?vd14) rfl (by kernel_rfl) rfl ?yd14 xd12 ?rd14
              case yd14 => (intro w hw; (go_simp; with_reducible rfl))
              simp only [Act.put, lyA, lyB, lyC, lyD, lyE, lyF]
              refine JR 14 (v := ?vd15) rfl (by kernel_rfl) rfl ?yd15 xd12 ?rd15
              case yd15 => (intro w hw; (go_simp; with_reducible rfl))
              simp only [Act.put, lyA, lyB, lyC, lyD, lyE, lyF]
              refine J_done (by kernel_rfl) (OnlyOn.normal ?_)
              clear hTd hXd hT1 hX1 hT2 hX2 hgd hgd1 hgd2 hTB hXB hkB kaB
              generalize actE c.p fs vals rs' x = er at *
              go_wp2
              go_roundw
              case rel => exact ⟨i + 1, actR c.p fs vals rs' x, t1, M1, L1, at2, by omega, by go_num, hE2, hle2, hT3, hX3⟩
              case measure => simp [intOf]; omega
          · obtain rfl : i = c.xn := by omega
            have hfl := hE'.out.len
            have hSt := hid (Store_any wr hT.out.desk hfl.2.2 ⟨hfl.1, hfl.2.1⟩)
            go_wp2_with fail
            refine hSt.out.mono ?_
            rintro e wC ⟨vv, rfl, MC, hdC, hmC, hfC⟩
            clear a0 a1 a2 a3 a4 a5
            have hbC := hid (hT.out.bag.keep (fun k q => hmC.at (hT.out.bag.lt q).2 (fun e => hT.out.bd k q e)))
            have hlC := hid (hT.out.log.keep (fun k q => hmC.at (hT.out.log.lt q).2 (fun e => hT.out.dl k e q)) hmC.size)
            have hdC := hid hdC
            have hXC := hid (Mv.base hmC hX.out (fun k e => by have := (hT.out.desk.lt e).1; have := hlo.out; omega))
            have dbd := hid (fun k (q : bF b t k) (e : DeskF MC k) => (show False from (hfC k e).elim (fun e => hT.out.bd k q e) (fun e => by have := (hT.out.bag.lt q).2; omega)))
            have ddl := hid (fun k (e : DeskF MC k) (q : LogF s L k) => (show False from (hfC k e).elim (fun e => hT.out.dl k e q) (fun e => by have := (hT.out.log.lt q).2; omega)))
            have dbl := hid hT.out.bl
            have hone := hid hT.out.one
            clear hSt hmC hfC hT hX
            have hEn := hid (End_any wC hlC.out hE.out hE'.out hone.out)
            go_wp2_with fail
            refine hEn.out.mono ?_
            rintro e wD ⟨rfl, ⟨n, hlD⟩, hmD⟩
            have hlD := hid hlD
            have hbD := hid (hbC.out.keep (w' := wD) (fun k q => hmD.at (hbC.out.lt q).2 (fun e => dbl.out k q e)))
            have hdD := hid (hdC.out.keep (w' := wD) (fun k q => hmD.at (hdC.out.lt q).2 (fun e => ddl.out k q e)) hmD.size)
            have hXD := hid (Mv.base hmD hXC.out (fun k e => by have := (hlC.out.lt e).1; have := hlo.out; omega))
            have hsD := hid (show b ≠ s ∧ (∀ k, bF b t k → k ≠ s) ∧ (∀ k, DeskF MC k → k ≠ s) ∧ w1.heap.size ≤ s from ⟨fun e => dbl.out b (.inl rfl) (.inl e), fun k q e => dbl.out k q (.inl e), fun k q e => ddl.out k q (.inl e), by have := (hlC.out.lt hlC.out.fb).1; have := hlo.out; omega⟩)
            clear hEn hmD hlC hbC hdC hXC dbl ddl
            have hCo := hid (Commits_any wD hlD.out)
            go_wp2_with fail
            refine hCo.out.mono ?_
            rintro e wE ⟨rfl, hlE, hmE⟩
            have hlE := hid hlE
            have hbE := hid (hbD.out.keep (w' := wE) (fun k q => hmE.at (hbD.out.lt q).2 (fun e => hsD.out.2.1 k q e)))
            have hdE := hid (hdD.out.keep (w' := wE) (fun k q => hmE.at (hdD.out.lt q).2 (fun e => hsD.out.2.2.1 k q e)) hmE.size)
            have hXE := hid (Mv.base hmE hXD.out (fun k e => by subst e; exact hsD.out.2.2.2))
            clear hCo hmE hlD hbD hdD hXD
            have hCm := hid (Committed_any wE hlE.out hE'.out)
            go_wp2_with fail
            refine hCm.out.mono ?_
            rintro e wF ⟨A1, d1, B1, d2, rfl, hO, hlF, hmF⟩
            obtain ⟨rr, hO⟩ := hO.tt
            have hbF := hid (hbE.out.keep (w' := wF) (fun k q => hmF.at (hbE.out.lt q).2 (fun e => hsD.out.2.1 k q e)))
            have hdF := hid (hdE.out.keep (w' := wF) (fun k q => hmF.at (hdE.out.lt q).2 (fun e => hsD.out.2.2.1 k q e)) hmF.size)
            have hXF := hid (Mv.base hmF hXE.out (fun k e => by subst e; exact hsD.out.2.2.2))
            obtain ⟨wG, gt, eG, hgt, sG, kt, xG⟩ := newB wF [.int .i64 c.p, .slice A1 fs.length d1, .slice B1 rs'.length d2] 25
            have hOF := hid (fun k (q : (⟨A1, fs.length, d1, B1, rs'.length, d2, rr⟩ : Tt).F k) => (show k ≠ b ∧ k ≠ d from ⟨fun e => by have := (hO.lt q).1; have := (hbE.out.lt (.inl rfl : bF b t b)).2; omega, fun e => by have := (hO.lt q).1; have := (hdE.out.lt hdE.out.fb).2; omega⟩))
            have hO := hid (hO.ext xG)
            have hbG := hid (hbF.out.ext xG)
            have hdG := hid (hdF.out.keep (fun k q => xG.block (hdF.out.lt q).2) xG.size)
            have hXG := hid (hXF.out.trans xG)
            have hgtb := hid (show gt ≠ b ∧ gt ≠ d ∧ b ≠ d ∧ (∀ k, bF b t k → k ≠ d) ∧ (∀ k, DeskF MC k → k ≠ b) ∧ w1.heap.size ≤ b ∧ w1.heap.size ≤ d from ⟨fun e => by have := (hbF.out.lt (.inl rfl : bF b t b)).2; have := hgt.out; omega, fun e => by have := (hdF.out.lt hdF.out.fb).2; have := hgt.out; omega, fun e => dbd.out b (.inl rfl) (e ▸ hdF.out.fb), fun k q e => dbd.out k q (e ▸ hdF.out.fb), fun k q e => dbd.out b (.inl rfl) (e ▸ q), by have := (hbF.out.lt (.inl rfl : bF b t b)).1; have := hlo.out; omega, by have := (hdF.out.lt hdF.out.fb).1; have := hlo.out; omega⟩)
            have kt := hid kt
            clear hCm hmF hlE hlF hbE hdE hXE hbF hdF hXF xG dbd sG hsD
            unfold tb
            have eG := eG.out
            have hgt := hgt.out
            go_upto_region 24 with fail
            try simp only [eG, hgt]
            clear eG hgt
            have hO := hid (hO.out.ext (Ext.refl wG).drew_right)
            have hbG := hid (hbG.out.ext (Ext.refl wG).drew_right)
            have hdG := hid (hdG.out.keep (w' := wG.drew) (fun k q => (Ext.refl wG).drew_right.block (hdG.out.lt q).2) (Ext.refl wG).drew_right.size)
            have hXG := hid (hXG.out.trans (Ext.refl wG).drew_right)
            have hgl1 := hid (show gt < wG.drew.heap.size from kt.out.lt)
            have xe : (fun w' => Bk w' gt [.int .i64 c.p, .slice A1 fs.length d1, .slice B1 rs'.length d2] 25) wG.drew := kt.out.ext (Ext.refl wG).drew_right
            refine region_J (fun w' => Bk w' gt [.int .i64 c.p, .slice A1 fs.length d1, .slice B1 rs'.length d2] 25) 15 (by kernel_rfl) ?_
            generalize wG.drew = de at * 
            refine JR 0 (v := ?ve1) rfl (by kernel_rfl) rfl ?ye1 xe ?re1
            case ye1 => (intro w hw; (go_simp; with_reducible rfl))
            simp only [Act.put, lyA, lyB, lyC, lyD, lyE, lyF]
            refine JR 2 (v := ?ve2) rfl (by kernel_rfl) rfl ?ye2 xe ?re2
            case ye2 => (intro w hw; (go_simp; with_reducible rfl))
            simp only [Act.put, lyA, lyB, lyC, lyD, lyE, lyF]
            refine J_one 1 rfl (by kernel_rfl) (fun K hK => ?_)
            have hcl := hid (bagTable_any w2.heap.size b c.p fs rs' t de hbG.out hE'.out)
            unfold tb at hcl
            go_simp
            refine hcl.out.mono ?_
            rintro e9 we3 ⟨X1, u1, Y1, v1, rfl, hQ, hbH, hme3⟩
            obtain ⟨rq, hQ⟩ := hQ.tt
            have hQF := hid (fun k (q : (⟨X1, fs.length, u1, Y1, rs'.length, v1, rq⟩ : Tt).F k) => (show k ≠ d from fun e => by have := (hQ.lt q).1; have := (hdG.out.lt hdG.out.fb).2; omega))
            have hQ := hid hQ
            have hbH := hid hbH
            have hdH := hid (hdG.out.keep (w' := we3) (fun k q => hme3.at (hdG.out.lt q).2 (fun e => hgtb.out.2.2.2.2.1 k q e)) hme3.size)
            have hOH := hid (hO.out.keep (w' := we3) (fun k q => hme3.at (hO.out.lt q).2 (fun e => (hOF.out k q).1 e)))
            have hXH := hid (Mv.base hme3 hXG.out (fun k e => by subst e; exact hgtb.out.2.2.2.2.2.1))
            have hgl2 := hid (Nat.lt_of_lt_of_le hgl1.out hme3.size)
            clear hcl
            refine hK _ _ ⟨fun _ => (xe).keep (hme3.at hgl1.out (fun e => hgtb.out.1 e)), ?_⟩
            clear hK K
            try simp only [Act.put, lyA, lyB, lyC, lyD, lyE, lyF]
            have xe3 : (fun w' => Bk w' gt [.int .i64 c.p, .slice A1 fs.length d1, .slice B1 rs'.length d2] 25) we3 := (xe).keep (hme3.at hgl1.out (fun e => hgtb.out.1 e))
            refine J_one 3 rfl (by kernel_rfl) (fun K hK => ?_)
            have hcl := hid (deskTable_any we3 hdH.out hE'.out)
            unfold tb at hcl
            go_simp
            refine hcl.out.mono ?_
            rintro e9 we4 ⟨X2, u2, Y2, v2, rfl, hP, hme4⟩
            obtain ⟨rp, hP⟩ := hP.tt
            have hP := hid hP
            have hQ2 := hid (hQ.out.keep (w' := we4) (fun k q => hme4.at (hQ.out.lt q).2 (fun e => hQF.out k q e)))
            have hbI := hid (hbH.out.keep (w' := we4) (fun k q => hme4.at (hbH.out.lt q).2 (fun e => hgtb.out.2.2.2.1 k q e)))
            have hOI := hid (hOH.out.keep (w' := we4) (fun k q => hme4.at (hOH.out.lt q).2 (fun e => (hOF.out k q).2 e)))
            have hXI := hid (Mv.base hme4 hXH.out (fun k e => by subst e; exact hgtb.out.2.2.2.2.2.2))
            have hgl3 := hid (Nat.lt_of_lt_of_le hgl2.out hme4.size)
            clear hcl
            refine hK _ _ ⟨fun _ => (xe3).keep (hme4.at hgl2.out (fun e => hgtb.out.2.1 e)), ?_⟩
            clear hK K
            try simp only [Act.put, lyA, lyB, lyC, lyD, lyE, lyF]
            have xe4 : (fun w' => Bk w' gt [.int .i64 c.p, .slice A1 fs.length d1, .slice B1 rs'.length d2] 25) we4 := (xe3).keep (hme4.at hgl2.out (fun e => hgtb.out.2.1 e))
            refine J_one 4 rfl (by kernel_rfl) (fun K hK => ?_)
            have hcl := hid (same_any c.p X1 fs.length u1 Y1 rs'.length v1 X2 u2 Y2 v2 fs rs' we4 hQ2.out.both.1 hQ2.out.both.2 hP.out.both.1 hP.out.both.2)
            unfold tb at hcl
            go_simp
            refine hcl.out.mono ?_
            rintro e9 we5 ⟨rfl, hxe5⟩
            have hbJ := hid (hbI.out.ext hxe5)
            have hOJ := hid (hOI.out.ext hxe5)
            have hXJ := hid (hXI.out.trans hxe5)
            have hgl4 := hid (Nat.lt_of_lt_of_le hgl3.out hxe5.size)
            clear hcl
            refine hK _ _ ⟨fun _ => (xe4).ext hxe5, ?_⟩
            clear hK K
            try simp only [Act.put, lyA, lyB, lyC, lyD, lyE, lyF]
            have xe5 : (fun w' => Bk w' gt [.int .i64 c.p, .slice A1 fs.length d1, .slice B1 rs'.length d2] 25) we5 := (xe4).ext hxe5
            refine JR 5 (v := ?ve6) rfl (by kernel_rfl) rfl ?ye6 xe5 ?re6
            case ye6 => (intro w hw; (go_simp; with_reducible rfl))
            simp only [Act.put, lyA, lyB, lyC, lyD, lyE, lyF]
            refine JR 6 (v := ?ve7) rfl (by kernel_rfl) rfl ?ye7 xe5 ?re7
            case ye7 => (intro w hw; (go_simp; with_reducible rfl))
            simp only [Act.put, lyA, lyB, lyC, lyD, lyE, lyF]
            refine JR 8 (v := ?ve8) rfl (by kernel_rfl) rfl ?ye8 xe5 ?re8
            case ye8 => (intro w hw; obtain ⟨a0, a1, a2⟩ := hw.c3; (go_simp; with_reducible rfl))
            simp only [Act.put, lyA, lyB, lyC, lyD, lyE, lyF]
            refine J_one 7 rfl (by kernel_rfl) (fun K hK => ?_)
            have hcl := hid (bagTable_any w2.heap.size b c.p fs rs' t we5 hbJ.out hE'.out)
            unfold tb at hcl
            go_simp
            refine hcl.out.mono ?_
            rintro e9 we9 ⟨X3, u3, Y3, v3, rfl, hR, hbK, hme9⟩
            obtain ⟨rq3, hR⟩ := hR.tt
            have hR := hid hR
            have hOK := hid (hOJ.out.keep (w' := we9) (fun k q => hme9.at (hOJ.out.lt q).2 (fun e => (hOF.out k q).1 e)))
            have hXK := hid (Mv.base hme9 hXJ.out (fun k e => by subst e; exact hgtb.out.2.2.2.2.2.1))
            clear hcl
            refine hK _ _ ⟨fun _ => (xe5).keep (hme9.at hgl4.out (fun e => hgtb.out.1 e)), ?_⟩
            clear hK K
            try simp only [Act.put, lyA, lyB, lyC, lyD, lyE, lyF]
            have xe9 : (fun w' => Bk w' gt [.int .i64 c.p, .slice A1 fs.length d1, .slice B1 rs'.length d2] 25) we9 := (xe5).keep (hme9.at hgl4.out (fun e => hgtb.out.1 e))
            refine J_one 9 rfl (by kernel_rfl) (fun K hK => ?_)
            have hcl := hid (same_any c.p X3 fs.length u3 Y3 rs'.length v3 A1 d1 B1 d2 fs rs' we9 hR.out.both.1 hR.out.both.2 hOK.out.both.1 hOK.out.both.2)
            unfold tb at hcl
            go_simp
            refine hcl.out.mono ?_
            rintro e9 we10 ⟨rfl, hxe10⟩
            have hXL := hid (hXK.out.trans hxe10)
            clear hcl
            refine hK _ _ ⟨fun _ => (xe9).ext hxe10, ?_⟩
            clear hK K
            try simp only [Act.put, lyA, lyB, lyC, lyD, lyE, lyF]
            have xe10 : (fun w' => Bk w' gt [.int .i64 c.p, .slice A1 fs.length d1, .slice B1 rs'.length d2] 25) we10 := (xe9).ext hxe10
            refine JR 10 (v := ?ve11) rfl (by kernel_rfl) rfl ?ye11 xe10 ?re11
            case ye11 => (intro w hw; (go_simp; with_reducible rfl))
            simp only [Act.put, lyA, lyB, lyC, lyD, lyE, lyF]
            refine JR 11 (v := ?ve12) rfl (by kernel_rfl) rfl ?ye12 xe10 ?re12
            case ye12 => (intro w hw; (go_simp; with_reducible rfl))
            simp only [Act.put, lyA, lyB, lyC, lyD, lyE, lyF]
            refine J_one 12 rfl (by kernel_rfl) (fun K hK => ?_)
            have hcl := hid (hkn.out we10)
            go_simp
            refine hcl.out.mono ?_
            rintro e9 we13 ⟨rfl, hxe13⟩
            have hXM := hid (x1.out.trans (hXL.out.trans hxe13))
            clear hcl
            refine hK _ _ ⟨fun _ => (xe10).ext hxe13, ?_⟩
            clear hK K
            try simp only [Act.put, lyA, lyB, lyC, lyD, lyE, lyF]
            have xe13 : (fun w' => Bk w' gt [.int .i64 c.p, .slice A1 fs.length d1, .slice B1 rs'.length d2] 25) we13 := (xe10).ext hxe13
            refine JR 13 (v := ?ve14) rfl (by kernel_rfl) rfl ?ye14 xe13 ?re14
            case ye14 => (intro w hw; (go_simp; with_reducible rfl))
            simp only [Act.put, lyA, lyB, lyC, lyD, lyE, lyF]
            refine JR 14 (v := ?ve15) rfl (by kernel_rfl) rfl ?ye15 xe13 ?re15
            case ye15 => (intro w hw; (go_simp; with_reducible rfl))
            simp only [Act.put, lyA, lyB, lyC, lyD, lyE, lyF]
            refine J_done (by kernel_rfl) (OnlyOn.normal ?_)
            go_wp2
            go_ret
            exact ⟨rfl, hXM.out⟩
    · have hne : ¬ vtE c.p fs rs = 0 := hE
      have hB := hid (bagNew_bad c.p c.A c.n c.c c.B c.m c.d fs rs w2 (hc.out.rf.ext hx2.out) (hc.out.rr.ext hx2.out) hE)
      have hD := hid (fun w' (hx : Ext w1 w') => deskNew_bad c.p c.A c.n c.c c.B c.m c.d fs rs w' (hc.out.rf.ext hx) (hc.out.rr.ext hx) hE)
      have hL := hid (fun w' (hx : Ext w1 w') => logNew_bad c.p c.A c.n c.c c.B c.m c.d fs rs w' (hc.out.rf.ext hx) (hc.out.rr.ext hx) hE)
      unfold tb at hB hD hL
      generalize vtE c.p fs rs = er at *
      clear hE
      go_wp2_with fail
      refine hB.out.mono ?_
      rintro e w3 ⟨rfl, hx3⟩
      have hy3 := hid (hx2.out.trans hx3)
      clear hB hx3 hx2 a0 a1 a2 a3 a4 a5
      obtain ⟨a0, a1, a2, a3, a4, a5⟩ := (kg.out.ext hy3.out).c6
      have hD3 := hid (hD.out w3 hy3.out)
      clear hD
      go_wp2_with fail
      refine hD3.out.mono ?_
      rintro e w4 ⟨rfl, hx4⟩
      have hy4 := hid (hy3.out.trans hx4)
      clear hD3 hx4 hy3 a0 a1 a2 a3 a4 a5
      obtain ⟨a0, a1, a2, a3, a4, a5⟩ := (kg.out.ext hy4.out).c6
      have hL4 := hid (hL.out w4 hy4.out)
      clear hL
      go_wp2_with fail
      refine hL4.out.mono ?_
      rintro e w5 ⟨rfl, hx5⟩
      have hy5 := hid (hy4.out.trans hx5)
      clear hL4 hx5 hy4 a0 a1 a2 a3 a4 a5
      go_wp2_with fail
      refine (hkn.out _).mono ?_
      rintro e w6 ⟨rfl, hx6⟩
      have hxf := hid (x1.out.trans (hy5.out.trans hx6))
      clear hy5 hx6
      go_wp2
      go_ret
      exact ⟨rfl, hxf.out⟩
end Go.Proofs.YtngoebbmgpdeiaaGreatDoor
