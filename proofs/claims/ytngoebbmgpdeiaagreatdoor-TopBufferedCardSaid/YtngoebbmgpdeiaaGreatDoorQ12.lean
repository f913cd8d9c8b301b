/-
  A desk: a change is written into its record; A desk: no record of a buffer clashes; A desk: nothing clashes with what was there; A desk: the buffer is emptied, the locks are given up; A desk: what storing does with its memory. No function of the program in sight; The keys of a map, sorted.
-/
import Derived.Test.YtngoebbmgpdeiaaGreatDoorQ11
set_option maxRecDepth 100000
set_option maxHeartbeats 40000000
set_option linter.unusedVariables false
set_option linter.unusedSimpArgs false
namespace Go.Proofs.YtngoebbmgpdeiaaGreatDoor
open Go.RowKit Go.Shelf Go.MuLone
theorem clashB_any (a n : Bool) (w : World) : Calls Tryz.prog 172 #[.bool a, .bool n, .bool a] w (Give (.bool false) w) := by
  cases a <;> cases n
  all_goals go_enter Tryz.func172, Tryz.ntmps172
  all_goals go_wp2
  all_goals go_ret
  all_goals exact ⟨rfl, Ext.refl _⟩
theorem clashV_any (a n : Vl) (w : World) : Calls Tryz.prog 173 #[vl a, vl n, vl a] w (Give (.bool false) w) := by
  obtain ⟨w1, g1, e1, h1, s1, k1, x1⟩ := newB w [.int .i64 a.k, .int .i64 a.n, .string a.s] 66
  obtain ⟨w2, g2, e2, h2, s2, k2, x2⟩ := newB w1 [.int .i64 n.k, .int .i64 n.n, .string n.s] 66
  obtain ⟨w3, g3, e3, h3, s3, k3, x3⟩ := newB w2 [.int .i64 a.k, .int .i64 a.n, .string a.s] 66
  have h2 := s1.out.symm.trans h2.out
  have h3 := s2.out.symm.trans h3.out
  have hx := hid ((x1.trans x2).trans x3)
  obtain ⟨a0, a1, a2⟩ := ((k1.ext x2).ext x3).c3
  obtain ⟨b0, b1, b2⟩ := (k2.ext x3).c3
  obtain ⟨c0, c1, c2⟩ := k3.c3
  have q1 := ne66 a n w3
  have q2 := ne66 a a w3
  rw [eqV_refl] at q2
  unfold vl at q1 q2 ⊢
  clear k1 k2 k3 x1 x2 x3
  cases hq : eqV a n
  all_goals rw [hq] at q1
  all_goals go_enter Tryz.func173, Tryz.ntmps173
  all_goals go_upto_region 1 with fail
  all_goals simp only [e1.out, e2.out, e3.out, h1.out, h2, h3]
  all_goals clear e1 e2 e3 h1
  all_goals go_wp2
  all_goals go_ret
  all_goals exact ⟨rfl, hx.out⟩
theorem clashes_any (o n r : Rr) (x y : Rc) (m : Nat) (w : World) (ho : RrOk w o x) (hn : RrOk w n y) (hr : RrOk w r x) (hxl : x.v.length = m) (hy : y.v.length = m) (hm : m ≤ 1000) : Calls Tryz.prog 125 #[chV o n, .agg #[.bool r.g, .slice r.A r.n r.c]] w (Give (.bool false) w) := by
  obtain ⟨og, oA, on, oc⟩ := o
  obtain ⟨ng, nA, nn, nc⟩ := n
  obtain ⟨rg, rA, rn, rc⟩ := r
  obtain ⟨o1, o2⟩ := ho
  obtain ⟨n1, n2⟩ := hn
  obtain ⟨r1, r2⟩ := hr
  simp only at o1 o2 n1 n2 r1 r2
  obtain rfl : on = m := by rw [← o2.len, hxl]
  obtain rfl : nn = on := by rw [← n2.len, hy]
  obtain rfl : rn = nn := by rw [← r2.len, hxl]
  subst o1
  subst r1
  subst n1
  obtain ⟨w1, g1, e1, h1, s1, k1, x1⟩ := newB w [.bool x.gone, .slice oA rn oc, .bool y.gone, .slice nA rn nc] 156
  obtain ⟨w2, g2, e2, h2, s2, k2, x2⟩ := newB w1 [.bool x.gone, .slice rA rn rc] 69
  have h2 := s1.out.symm.trans h2.out
  have hX := hid (x1.trans x2)
  have k1 := hid (k1.ext x2)
  have k2 := hid k2
  have o2 := hid (o2.ext hX.out)
  have n2 := hid (n2.ext hX.out)
  have r2 := hid (r2.ext hX.out)
  clear x1 x2
  have qB := hid (fun w => clashB_any x.gone y.gone w)
  have qV := hid (fun a n w => clashV_any a n w)
  unfold vl at qV
  obtain ⟨a0, a1, a2, a3⟩ := k1.out.c4
  obtain ⟨b0, b1⟩ := k2.out.c2
  unfold chV
  go_enter Tryz.func125, Tryz.ntmps125
  go_upto_region 1 with fail
  simp only [e1.out, e2.out, h1.out, h2]
  clear e1 e2 h1
  go_wp2_with fail
  refine (qB.out _).mono ?_
  rintro e w3 ⟨rfl, hx3⟩
  clear qB a0 a1 a2 a3 b0 b1
  obtain ⟨a0, a1, a2, a3⟩ := (k1.out.ext hx3).c4
  have hx3 := hid hx3
  go_wp2_with fail
  go_loopw [20] (fun i wr => ∃ k : Nat, k ≤ rn ∧ i = .int .i64 k ∧ Hid (Ext w2 wr)) (fun i _ => rn - (intOf i).toNat)
  case atStart => exact ⟨0, by omega, rfl, hx3⟩
  case round =>
    clear a0 a1 a2 a3 hx3
    obtain ⟨k, hk, rfl, hx⟩ := hrel
    by_cases hlt : k < rn
    · obtain ⟨ad, rfl, x0, x1, x2⟩ := (n2.out.ext hx.out).at_ hlt
      obtain ⟨oad, rfl, -⟩ := o2.out.at_ hlt
      obtain ⟨rad, rfl, -⟩ := r2.out.at_ hlt
      have hV := V3.new wr (vth y.v k)
      have hx4 := hid (Ext.new wr (.cells #[.int .i64 (vth y.v k).k, .int .i64 (vth y.v k).n, .string (vth y.v k).s] 66))
      go_upto_region 6 with fail
      generalize wr.alloc (.cells #[.int .i64 (vth y.v k).k, .int .i64 (vth y.v k).n, .string (vth y.v k).s] 66) = w4 at *
      generalize wr.heap.size = b4 at *
      have hV := hid hV
      replace hx := hid (hx.out.trans hx4.out)
      clear x0 x1 x2 hx4
      have xa := (Ext.refl w4).drew_right
      refine region_J (fun w' => Ext w4 w') 13 (by kernel_rfl) ?_
      generalize w4.drew = da at xa ⊢
      refine JR 0 (v := ?va1) rfl (by kernel_rfl) rfl ?ya1 xa ?ra1
      case ya1 => (intro w hw; (go_simp; with_reducible rfl))
      simp only [Act.put, lyA, lyB, lyC, lyD, lyE, lyF]
      refine JR 1 (v := ?va2) rfl (by kernel_rfl) rfl ?ya2 xa ?ra2
      case ya2 => (intro w hw; (go_simp; with_reducible rfl))
      simp only [Act.put, lyA, lyB, lyC, lyD, lyE, lyF]
      refine JR 2 (v := ?va3) rfl (by kernel_rfl) rfl ?ya3 xa ?ra3
      case ya3 => (intro w hw; obtain ⟨a0, a1, a2, a3⟩ := (k1.out.ext (hx.out.trans hw)).c4; obtain ⟨b0, b1⟩ := (k2.out.ext (hx.out.trans hw)).c2; obtain ⟨v0, v1, v2, -⟩ := hV.out.ext hw; obtain ⟨_, eo, p0, p1, p2⟩ := (o2.out.ext (hx.out.trans hw)).at_ hlt; injection eo with eo; subst eo; obtain ⟨_, er, u0, u1, u2⟩ := (r2.out.ext (hx.out.trans hw)).at_ hlt; injection er with er; subst er; (go_simp; with_reducible rfl))
      simp only [Act.put, lyA, lyB, lyC, lyD, lyE, lyF]
      refine JR 3 (v := ?va4) rfl (by kernel_rfl) rfl ?ya4 xa ?ra4
      case ya4 => (intro w hw; (go_simp; with_reducible rfl))
      simp only [Act.put, lyA, lyB, lyC, lyD, lyE, lyF]
      refine JR 4 (v := ?va5) rfl (by kernel_rfl) rfl ?ya5 xa ?ra5
      case ya5 => (intro w hw; (go_simp; with_reducible rfl))
      simp only [Act.put, lyA, lyB, lyC, lyD, lyE, lyF]
      refine JR 5 (v := ?va6) rfl (by kernel_rfl) rfl ?ya6 xa ?ra6
      case ya6 => (intro w hw; obtain ⟨a0, a1, a2, a3⟩ := (k1.out.ext (hx.out.trans hw)).c4; obtain ⟨b0, b1⟩ := (k2.out.ext (hx.out.trans hw)).c2; obtain ⟨v0, v1, v2, -⟩ := hV.out.ext hw; obtain ⟨_, eo, p0, p1, p2⟩ := (o2.out.ext (hx.out.trans hw)).at_ hlt; injection eo with eo; subst eo; obtain ⟨_, er, u0, u1, u2⟩ := (r2.out.ext (hx.out.trans hw)).at_ hlt; injection er with er; subst er; (go_simp; with_reducible rfl))
      simp only [Act.put, lyA, lyB, lyC, lyD, lyE, lyF]
      refine JR 6 (v := ?va7) rfl (by kernel_rfl) rfl ?ya7 xa ?ra7
      case ya7 => (intro w hw; obtain ⟨a0, a1, a2, a3⟩ := (k1.out.ext (hx.out.trans hw)).c4; obtain ⟨b0, b1⟩ := (k2.out.ext (hx.out.trans hw)).c2; obtain ⟨v0, v1, v2, -⟩ := hV.out.ext hw; obtain ⟨_, eo, p0, p1, p2⟩ := (o2.out.ext (hx.out.trans hw)).at_ hlt; injection eo with eo; subst eo; obtain ⟨_, er, u0, u1, u2⟩ := (r2.out.ext (hx.out.trans hw)).at_ hlt; injection er with er; subst er; (go_simp; with_reducible rfl))
      simp only [Act.put, lyA, lyB, lyC, lyD, lyE, lyF]
      refine JR 7 (v := ?va8) rfl (by kernel_rfl) rfl ?ya8 xa ?ra8
      case ya8 => (intro w hw; (go_simp; with_reducible rfl))
      simp only [Act.put, lyA, lyB, lyC, lyD, lyE, lyF]
      refine JR 8 (v := ?va9) rfl (by kernel_rfl) rfl ?ya9 xa ?ra9
      case ya9 => (intro w hw; obtain ⟨a0, a1, a2, a3⟩ := (k1.out.ext (hx.out.trans hw)).c4; obtain ⟨b0, b1⟩ := (k2.out.ext (hx.out.trans hw)).c2; obtain ⟨v0, v1, v2, -⟩ := hV.out.ext hw; obtain ⟨_, eo, p0, p1, p2⟩ := (o2.out.ext (hx.out.trans hw)).at_ hlt; injection eo with eo; subst eo; obtain ⟨_, er, u0, u1, u2⟩ := (r2.out.ext (hx.out.trans hw)).at_ hlt; injection er with er; subst er; (go_simp; with_reducible rfl))
      simp only [Act.put, lyA, lyB, lyC, lyD, lyE, lyF]
      refine JR 9 (v := ?va10) rfl (by kernel_rfl) rfl ?ya10 xa ?ra10
      case ya10 => (intro w hw; (go_simp; with_reducible rfl))
      simp only [Act.put, lyA, lyB, lyC, lyD, lyE, lyF]
      refine JR 10 (v := ?va11) rfl (by kernel_rfl) rfl ?ya11 xa ?ra11
      case ya11 => (intro w hw; (go_simp; with_reducible rfl))
      simp only [Act.put, lyA, lyB, lyC, lyD, lyE, lyF]
      refine JR 11 (v := ?va12) rfl (by kernel_rfl) rfl ?ya12 xa ?ra12
      case ya12 => (intro w hw; obtain ⟨a0, a1, a2, a3⟩ := (k1.out.ext (hx.out.trans hw)).c4; obtain ⟨b0, b1⟩ := (k2.out.ext (hx.out.trans hw)).c2; obtain ⟨v0, v1, v2, -⟩ := hV.out.ext hw; obtain ⟨_, eo, p0, p1, p2⟩ := (o2.out.ext (hx.out.trans hw)).at_ hlt; injection eo with eo; subst eo; obtain ⟨_, er, u0, u1, u2⟩ := (r2.out.ext (hx.out.trans hw)).at_ hlt; injection er with er; subst er; (go_simp; with_reducible rfl))
      simp only [Act.put, lyA, lyB, lyC, lyD, lyE, lyF]
      refine J_one 12 rfl (by kernel_rfl) (fun K hK => ?_)
      go_simp
      refine (qV.out (vth x.v k) (vth y.v k) _).mono ?_
      rintro e wa13 ⟨rfl, hxa13⟩
      refine hK _ _ ⟨fun _ => ((xa).trans hxa13), ?_⟩
      clear hK K
      try simp only [Act.put, lyA, lyB, lyC, lyD, lyE, lyF]
      have xa13 := ((xa).trans hxa13)
      refine J_done (by kernel_rfl) (OnlyOn.normal ?_)
      replace hx := hid (hx.out.trans xa13)
      clear hV qV
      go_wp2
      go_roundw
      case rel => exact ⟨k + 1, by omega, by go_num, hx⟩
      case measure => simp [intOf]; omega
    · obtain rfl : k = rn := by omega
      go_wp2
      go_ret
      exact ⟨rfl, hX.out.trans hx.out⟩
open Go.RowKit Go.Shelf Go.MuLone
theorem OwTt.turnV {w : World} {lo wd : Nat} {fs : List Fd} {rs : List Rc} {t : Tt} (h : OwTt w lo wd fs rs t) {i j : Nat} (hi : i < rs.length) (hj : j < wd) (y : Vl) :
    OwTt (w.setCells (rb (rrth t.rr i)) (j * 3) (vcl y)) lo wd fs (rs.set i ⟨(rth rs i).gone, (rth rs i).v.set j y⟩) t := by
  obtain ⟨h1, h2, h3, h4, h5, h6⟩ := h
  have k := h2.turnV (y := y) h3 hi hj
  refine ⟨own_same h1 (fun f hf => (setCells_at _ w _ _).2.2.2.2 f (fun e => (h6 f hf).2 i hi e.symm)), k, by simpa using h3, by simpa using h4, h5, fun f hf => ⟨(h6 f hf).1, fun j hj => ?_⟩⟩
  rw [List.length_set] at hj
  exact (h6 f hf).2 j hj
def SameT (t u : Tt) (i : Nat) : Prop := u.A = t.A ∧ u.n = t.n ∧ u.c = t.c ∧ u.B = t.B ∧ u.m = t.m ∧ u.d = t.d ∧ (rrth u.rr i).A = (rrth t.rr i).A ∧ (rrth u.rr i).c = (rrth t.rr i).c ∧ u.rr.length = t.rr.length ∧ ∀ k, rb (rrth u.rr k) = rb (rrth t.rr k)
theorem SameT.refl (t : Tt) (i : Nat) : SameT t t i := ⟨rfl, rfl, rfl, rfl, rfl, rfl, rfl, rfl, rfl, fun _ => rfl⟩
theorem SameT.F {t u : Tt} {i : Nat} (h : SameT t u i) {k : Nat} (hk : u.F k) : t.F k := by
  obtain ⟨a, b, c, d, e, f, g, g2, l, r⟩ := h
  rcases hk with q | q | ⟨j, hj, q⟩
  · exact .inl (by rw [← a, ← b, ← c]; exact q)
  · exact .inr (.inl (by rw [← d, ← e, ← f]; exact q))
  · exact .inr (.inr ⟨j, by omega, by rw [← r]; exact q⟩)
theorem SameT.mark (t : Tt) (i : Nat) (q : Bool) : SameT t ⟨t.A, t.n, t.c, t.B, t.m, t.d, t.rr.set i ⟨q, (rrth t.rr i).A, (rrth t.rr i).n, (rrth t.rr i).c⟩⟩ i := by
  have e : ∀ k, rb (rrth (t.rr.set i ⟨q, (rrth t.rr i).A, (rrth t.rr i).n, (rrth t.rr i).c⟩) k) = rb (rrth t.rr k) := fun k => by
    by_cases h : k = i
    · subst h
      by_cases h2 : k < t.rr.length
      · rw [rrth_set_same h2]; rfl
      · rw [List.set_eq_of_length_le (by omega)]
    · rw [rrth_set_ne h]
  by_cases h2 : i < t.rr.length
  · exact ⟨rfl, rfl, rfl, rfl, rfl, rfl, by show (rrth (t.rr.set i _) i).A = _; rw [rrth_set_same h2], by show (rrth (t.rr.set i _) i).c = _; rw [rrth_set_same h2], by simp, e⟩
  · refine ⟨rfl, rfl, rfl, rfl, rfl, rfl, ?_, ?_, by simp, e⟩ <;> (show _ = _; simp only; rw [List.set_eq_of_length_le (by omega)])
def mixV (y x : List Vl) (j : Nat) : List Vl := y.take j ++ x.drop j
theorem mixV_len {y x : List Vl} {j : Nat} (h : y.length = x.length) (hj : j ≤ x.length) : (mixV y x j).length = x.length := by unfold mixV; simp; omega
theorem mixV_zero (y x : List Vl) : mixV y x 0 = x := by simp [mixV]
theorem mixV_all {y x : List Vl} (h : y.length = x.length) : mixV y x x.length = y := by unfold mixV; rw [List.take_of_length_le (by omega)]; simp
theorem mixV_set {y x : List Vl} {j : Nat} (h : y.length = x.length) (hj : j < x.length) : (mixV y x j).set j (vth y j) = mixV y x (j + 1) := by
  unfold mixV
  rw [List.set_append_right (h := by simp; omega)]
  have e : j - (y.take j).length = 0 := by simp; omega
  have h2 : j < y.length := by omega
  rw [e, List.drop_eq_getElem_cons hj, List.set_cons_zero, List.take_succ_eq_append_getElem h2, vth_get h2, List.append_assoc, List.singleton_append]
theorem mixV_at {y x : List Vl} {j : Nat} (h : y.length = x.length) (hj : j < x.length) : vth (mixV y x j) j = vth x j := by
  unfold mixV
  rw [vth_get (by simp; omega), vth_get hj, List.getElem_append_right (by simp; omega)]
  simp
  congr 1
  omega
theorem mixV_same {y x : List Vl} {j : Nat} (h : y.length = x.length) (hj : j < x.length) (e : vth x j = vth y j) : mixV y x (j + 1) = mixV y x j := by
  rw [← mixV_set h hj, ← e, ← mixV_at h hj, vth_get (by rw [mixV_len h (by omega)]; exact hj)]
  simp
theorem set_set (rs : List Rc) (i : Nat) (a b : Rc) : (rs.set i a).set i b = rs.set i b := by simp
def WrI (lo wd i : Nat) (fs : List Fd) (rs : List Rc) (r : Rc) (t : Tt) (w0 w : World) : Prop := ∃ u, OwTt w lo wd fs (rs.set i r) u ∧ SameT t u i ∧ Mv w0 w t.F
theorem WrI.ext {lo wd i : Nat} {fs : List Fd} {rs : List Rc} {r : Rc} {t : Tt} {w0 w w' : World} (h : WrI lo wd i fs rs r t w0 w) (hx : Ext w w') : WrI lo wd i fs rs r t w0 w' := by
  obtain ⟨u, a, b, c⟩ := h
  exact ⟨u, a.ext hx, b, c.ext hx⟩
theorem write_any (lo g i m : Nat) (o n : Rr) (y : Rc) (fs : List Fd) (rs : List Rc) (t : Tt) (w : World) (ho : RrOk w o (rth rs i)) (hn : RrOk w n y) (hof : ∀ k, atB o.A o.n k → ¬ t.F k) (hnf : ∀ k, atB n.A n.n k → ¬ t.F k) (hT : OwTt w lo m fs rs t) (hg : t.B = some ⟨g, 0, none⟩) (hi : i < rs.length) (hy : y.v.length = m) (hm : m ≤ 1000) :
    Calls Tryz.prog 91 #[chV o n, .pointer (some ⟨g, i * 2, none⟩)] w fun e w' => e = .returned (.tuple #[]) ∧ WrI lo m i fs rs y t w w' := by
  obtain ⟨og, oA, on, oc⟩ := o
  obtain ⟨ng, nA, nn, nc⟩ := n
  obtain ⟨o1, o2⟩ := ho
  obtain ⟨n1, n2⟩ := hn
  simp only at o1 o2 n1 n2 hof hnf
  have hxl := (hT.2.1.2.1 i hi).2.2.1
  obtain rfl : on = m := by rw [← o2.len, hxl]
  obtain rfl : nn = on := by rw [← n2.len, hy]
  subst o1
  subst n1
  obtain ⟨w1, g1, e1, h1, s1, k1, x1⟩ := newB w [.bool (rth rs i).gone, .slice oA nn oc, .bool y.gone, .slice nA nn nc] 156
  have hgF : t.F g := .inr (.inl (by rw [hg]; rfl))
  have hgl := (hT.lt hgF).2
  have hw := h1.out
  have hT1 := hT.ext x1
  have hfr : w1.frozen? ⟨g, i * 2, none⟩ = false := by
    have hr := hT1.2.1.1
    rw [hT1.2.2.1, hg] at hr
    exact ((row_there hr (o := i * 2) (s := 1) (by omega)) 0 (by omega)).2
  have hg1F : ¬ t.F g1 := fun e => by have := (hT.lt e).2; omega
  obtain ⟨g', eg, -, -, r0, r1, -⟩ := hT1.at_ hi
  obtain rfl : g' = g := by rw [hg] at eg; injection eg with eg; injection eg with eg; exact eg.symm
  obtain ⟨a0, a1, a2, a3⟩ := k1.c4
  have K := hid (fun w' (h : Mv w w' t.F) (hk : Bk w' g1 [.bool (rth rs i).gone, .slice oA nn oc, .bool y.gone, .slice nA nn nc] 156) => (show RdV w' oA nn oc (rth rs i).v ∧ RdV w' nA nn nc y.v from ⟨o2.keepB (fun k q => h.at (o2.atlt q) (hof k q)), n2.keepB (fun k q => h.at (n2.atlt q) (hnf k q))⟩))
  have m1 := hid (Mv.of (F := t.F) x1)
  have k1 := hid k1
  -- what stands behind the mark
  have hA : Hid ((rth rs i).gone = y.gone → WrI lo nn i fs rs ⟨y.gone, (rth rs i).v⟩ t w w1) := hid (fun e => ⟨t, by
    have e2 : (⟨y.gone, (rth rs i).v⟩ : Rc) = rth rs i := by rw [← e]
    rw [e2, rth_get hi, List.set_getElem_self]
    exact hT1, SameT.refl t i, m1.out⟩)
  have hB : Hid (WrI lo nn i fs rs ⟨y.gone, (rth rs i).v⟩ t w (w1.setCell ⟨g', i * 2, none⟩ (.bool y.gone))) := hid ⟨_, hT1.turnG hi hg y.gone, SameT.mark t i y.gone, m1.out.set (.inl hgF) _ _⟩
  have kB := hid (k1.out.other (g := g') (fun e => hg1F (e ▸ hgF)) (i * 2) (.bool y.gone))
  have hxl := hid hxl
  have hil := hid hi
  clear hT hT1 x1 o2 n2 hof hnf
  unfold chV
  go_enter Tryz.func91, Tryz.ntmps91
  go_upto_region 1 with fail
  simp only [e1.out, h1.out]
  clear e1 h1
  go_upto_if 12 with fail
  go_cut [] from 13 to 18 (fun wx => Hid (WrI lo nn i fs rs ⟨y.gone, (rth rs i).v⟩ t w wx) ∧ Hid (Bk wx g1 [.bool (rth rs i).gone, .slice oA nn oc, .bool y.gone, .slice nA nn nc] 156))
  case first =>
    go_wp2_with fail
    · go_meet
      exact ⟨hB, kB⟩
    · go_meet
      rename_i h
      have e : (rth rs i).gone = y.gone := by simpa using h
      exact ⟨hid (hA.out e), k1⟩
  case rest =>
    obtain ⟨hW, hk⟩ := hcut
    have hz := mixV_zero y.v (rth rs i).v
    rw [← hz] at hW
    clear hz hA hB kB k1 a0 a1 a2 a3 r0 r1 hfr m1
    obtain ⟨a0, a1, a2, a3⟩ := hk.out.c4
    go_wp2_with fail
    go_loopw [23] (fun v wr => ∃ k : Nat, k ≤ nn ∧ v = .int .i64 k ∧ Hid (WrI lo nn i fs rs ⟨y.gone, mixV y.v (rth rs i).v k⟩ t w wr) ∧ Hid (Bk wr g1 [.bool (rth rs i).gone, .slice oA nn oc, .bool y.gone, .slice nA nn nc] 156)) (fun v _ => nn - (intOf v).toNat)
    case atStart => exact ⟨0, by omega, rfl, hW, hk⟩
    case round =>
      clear hW hk a0 a1 a2 a3
      obtain ⟨k, hkn, rfl, hW, hk⟩ := hrel
      by_cases hlt : k < nn
      · obtain ⟨o2, n2⟩ := K.out wr (by obtain ⟨u, -, -, h⟩ := hW.out; exact h) hk.out
        obtain ⟨ad, rfl, x0, x1, x2⟩ := n2.at_ hlt
        obtain ⟨oad, rfl, -⟩ := o2.at_ hlt
        have o2 := hid o2
        have hV := V3.new wr (vth y.v k)
        have hx4 := hid (Ext.new wr (.cells #[.int .i64 (vth y.v k).k, .int .i64 (vth y.v k).n, .string (vth y.v k).s] 66))
        go_upto_region 6 with fail
        generalize wr.alloc (.cells #[.int .i64 (vth y.v k).k, .int .i64 (vth y.v k).n, .string (vth y.v k).s] 66) = w4 at *
        generalize wr.heap.size = b4 at *
        have W4 := hid (hW.out.ext hx4.out)
        have K4 := hid (hk.out.ext hx4.out)
        have V4 := hid hV
        have O4 := hid (o2.out.ext hx4.out)
        clear x0 x1 x2 n2 hV hW hk o2 hx4
        obtain ⟨a0, a1, a2, a3⟩ := K4.out.c4
        obtain ⟨v0, v1, v2, hb4⟩ := V4.out
        obtain ⟨_, eo, p0, p1, p2⟩ := O4.out.at_ hlt
        injection eo with eo
        subst eo
        have hq := ne66 (vth (rth rs i).v k) (vth y.v k)
        unfold vl at hq
        have hst := hid (mixV_set (y := y.v) (x := (rth rs i).v) (j := k) (by rw [hy, hxl.out]) (by rw [hxl.out]; exact hlt))
        have hsm := hid (mixV_same (y := y.v) (x := (rth rs i).v) (j := k) (by rw [hy, hxl.out]) (by rw [hxl.out]; exact hlt))
        cases hE : eqV (vth (rth rs i).v k) (vth y.v k) with
        | true =>
          rw [hE] at hq
          have e := hsm.out (eqV_iff.1 hE)
          clear hst hsm hE
          go_quiet (fail)
          go_wp2
          go_roundw
          case rel => exact ⟨k + 1, by omega, by go_num, by rw [e]; exact hid (W4.out.ext ((Ext.refl _).drewN_right _)), hid (K4.out.ext ((Ext.refl _).drewN_right _))⟩
          case measure => simp [intOf]; omega
        | false =>
          rw [hE] at hq
          clear hsm hE
          go_quiet (fail)
          go_wp2_with fail
          have hd := hid ((Ext.refl w4).drewN_right nq)
          generalize w4.drewN nq = w5 at *
          have W5 := hid (W4.out.ext hd.out)
          have K5 := hid (K4.out.ext hd.out)
          have V5 := hid (V4.out.ext hd.out)
          clear W4 K4 V4 O4 hd a0 a1 a2 a3 v0 v1 v2 p0 p1 p2 hq
          obtain ⟨u, hU, hS, hM⟩ := W5.out
          have hil5 : i < (rs.set i ⟨y.gone, mixV y.v (rth rs i).v k⟩).length := by rw [List.length_set]; exact hil.out
          obtain ⟨g9, e9, -, -, -, -, hv9⟩ := hU.at_ hil5
          obtain rfl : g9 = g' := by rw [hS.2.2.2.1, hg] at e9; injection e9 with e9; injection e9 with e9; exact e9.symm
          obtain ⟨gV, eV, hgV⟩ := hv9.2.2.2
          have hgVF : t.F gV := hS.F (.inr (.inr ⟨i, by have := hU.2.2.1; omega, by unfold rb; rw [eV]; rfl⟩))
          have hgV1 : gV ≠ g1 := fun e => hg1F (e ▸ hgVF)
          have hrV : rb (rrth u.rr i) = gV := by unfold rb; rw [eV]; rfl
          have hU := hid hU
          have hS := hid hS
          have hM := hid hM
          have hgV := hid hgV
          have hgVl := (hU.out.lt (k := gV) (.inr (.inr ⟨i, by have := hU.out.2.2.1; omega, hrV⟩))).2
          clear W5 e9 hv9
          have xa := (Ext.refl w5).drew_right
          refine region_J (fun w' => Ext w5 w') 7 (by kernel_rfl) ?_
          generalize w5.drew = da at xa ⊢
          refine JW 0 (v := ?va1) rfl (by kernel_rfl) rfl ?ya1 xa ?ra1
          case ya1 => (intro w hw; (go_simp; with_reducible rfl))
          simp only [Act.put, lyA, lyB, lyC, lyD, lyE, lyF]
          refine JW 1 (v := ?va2) rfl (by kernel_rfl) rfl ?ya2 xa ?ra2
          case ya2 => (intro w hw; (go_simp; with_reducible rfl))
          simp only [Act.put, lyA, lyB, lyC, lyD, lyE, lyF]
          refine JW 2 (v := ?va3) rfl (by kernel_rfl) rfl ?ya3 xa ?ra3
          case ya3 => (intro w hw; (go_simp; with_reducible rfl))
          simp only [Act.put, lyA, lyB, lyC, lyD, lyE, lyF]
          refine JW 3 (v := ?va4) rfl (by kernel_rfl) rfl ?ya4 xa ?ra4
          case ya4 => (intro w hw; obtain ⟨v0, v1, v2, -⟩ := V5.out.ext hw; obtain ⟨g8, e8, -, -, -, r1, -⟩ := (hU.out.ext hw).at_ hil5; obtain rfl : g8 = g9 := (by (rw [hS.out.2.2.2.1, hg] at e8; injection e8 with e8; injection e8 with e8; exact e8.symm)); rw [eV] at r1; (go_simp; with_reducible rfl))
          simp only [Act.put, lyA, lyB, lyC, lyD, lyE, lyF]
          refine JW 4 (v := ?va5) rfl (by kernel_rfl) rfl ?ya5 xa ?ra5
          case ya5 => (intro w hw; (go_simp; with_reducible rfl))
          simp only [Act.put, lyA, lyB, lyC, lyD, lyE, lyF]
          refine JW 5 (v := ?va6) rfl (by kernel_rfl) rfl ?ya6 xa ?ra6
          case ya6 => (intro w hw; obtain ⟨v0, v1, v2, -⟩ := V5.out.ext hw; obtain ⟨g8, e8, -, -, -, r1, -⟩ := (hU.out.ext hw).at_ hil5; obtain rfl : g8 = g9 := (by (rw [hS.out.2.2.2.1, hg] at e8; injection e8 with e8; injection e8 with e8; exact e8.symm)); rw [eV] at r1; (go_simp; with_reducible rfl))
          simp only [Act.put, lyA, lyB, lyC, lyD, lyE, lyF]
          refine JW 6 (v := ?va7) rfl (by kernel_rfl) rfl ?ya7 xa ?ra7
          case ya7 => (intro w hw; (go_simp; with_reducible rfl))
          simp only [Act.put, lyA, lyB, lyC, lyD, lyE, lyF]
          refine J_one 7 rfl (by kernel_rfl) (fun K hK => ?_)
          have hth : da.there gV (k * 3) 3 := by
            have hr := (xa).own hgV.out
            exact row_there hr (by omega)
          have hU6 := (hU.out.ext (xa)).turnV hil5 hlt (vth y.v k)
          rw [hrV, rth_set_same hil.out, set_set] at hU6
          simp only at hU6
          rw [hst.out] at hU6
          have hWn : Hid (WrI lo nn i fs rs ⟨y.gone, mixV y.v (rth rs i).v (k + 1)⟩ t w (da.setCells gV (k * 3) (vcl (vth y.v k)))) := hid ⟨u, hU6, hS.out, (hM.out.ext (xa)).setC (.inl hgVF) _ _⟩
          have hKn := hid ((K5.out.ext (xa)).keep (w' := da.setCells gV (k * 3) (vcl (vth y.v k))) ((setCells_at _ _ _ _).2.2.2.2 g1 (Ne.symm hgV1)))
          refine step_store_mid rfl 66 _ _ rfl gV (k * 3) #[.int .i64 (vth y.v k).k, .int .i64 (vth y.v k).n, .string (vth y.v k).s] rfl rfl hth (by kernel_rfl) (by first | rfl | simp [Value.oneCell']) ?_
          refine hK _ _ ⟨fun h => absurd rfl h, ?_⟩
          clear hK K
          try simp only [Act.put, lyA, lyB, lyC, lyD, lyE, lyF]
          change Hid (WrI lo nn i fs rs _ t w (da.setCells gV (k * 3) [.int .i64 (vth y.v k).k, .int .i64 (vth y.v k).n, .string (vth y.v k).s])) at hWn
          change Hid (Bk (da.setCells gV (k * 3) [.int .i64 (vth y.v k).k, .int .i64 (vth y.v k).n, .string (vth y.v k).s]) _ _ _) at hKn
          refine J_done (by kernel_rfl) (OnlyOn.normal ?_)
          go_wp2
          go_roundw
          case rel => exact ⟨k + 1, by omega, by go_num, hWn, hKn⟩
          case measure => simp [intOf]; omega
      · obtain rfl : k = nn := by omega
        have e := mixV_all (y := y.v) (x := (rth rs i).v) (by rw [hy, hxl.out])
        rw [hxl.out] at e
        rw [e] at hW
        go_wp2
        refine bodyPost_end (v := .tuple #[]) (by simp [results, Tryz.results91]) rfl ?_
        exact ⟨rfl, hW.out⟩
open Go.RowKit Go.Shelf Go.MuLone
noncomputable def leftW (w : World) (r : Nat) : Nat := match w.heap[r]? with
  | some (.mapIter (some b) _ seen _) => (match w.heap[b]? with
    | some (.map es _) => (leftOf es seen).size
    | _ => 0)
  | _ => 0
theorem Ranging.left {P : Program} {K : TypeId} {κ : Type} [DecidableEq κ] {E : KeyEnc P K κ} {w : World} {b r cnt : Nat} {kv : List (κ × Value)} {D : κ → Bool} (h : Ranging E w b r kv D cnt) : leftW w r = cnt := by
  obtain ⟨es, clock, since, seen, c0, h1, h2, _, _, _, h6, _⟩ := h
  unfold leftW
  rw [h2]
  simp only
  rw [h1.1]
  exact h6
theorem rm_lk (l : List Int) (k : Int) : rm (lkK l) k = lkK (l.filter (fun x => decide (x ≠ k))) := by
  unfold rm lkK
  rw [List.filter_map]
  rfl
theorem clean_any (b : Nat) (s p mode at_ : Int) (M : Dm) (w : World) (hb : Bk w b (deskC s p mode at_ M) 93) (hl : IsMap keyI w M.bl (lkK M.lk)) (hne : b ≠ M.bl) :
    Calls Tryz.prog 92 #[.pointer (some ⟨b, 0, none⟩), .int .i64 0, .pointer (some ⟨b, 5, none⟩)] w fun e w' => e = .returned (.tuple #[]) ∧ ∃ bm', Bk w' b (deskC s p mode at_ { M with bm := bm', pA := none, pn := 0, pc := 0 }) 93 ∧ IsMap keyI w' M.bl [] ∧ IsMap keyI w' bm' [] ∧ w.heap.size ≤ bm' ∧ bm' < w'.heap.size ∧ Mv w w' (fun k => k = b ∨ k = M.bl) := by
  have hmm := @run_makeMap Tryz.prog
  have hbl := hid hb.lt
  have hll := hid hl.lt
  have x1 := Ext.new w (.map #[] 0)
  have m0 : IsMap keyI (w.alloc (.map #[] 0)) w.heap.size [] := IsMap.new w
  have hb1 := hb.ext x1
  have hl1 := hl.ext x1
  have a7 : (w.alloc (.map #[] 0)).cell? ⟨b, 7, none⟩ = some (.map (some M.bm)) := hb1.at rfl
  have a8 : (w.alloc (.map #[] 0)).cell? ⟨b, 8, none⟩ = some (.slice M.pA M.pn M.pc) := hb1.at rfl
  have z7 := hb1.free 7
  have z8 := hb1.free 8
  have k3 : Hid (Bk (((w.alloc (.map #[] 0)).setCell ⟨b, 7, none⟩ (.map (some w.heap.size))).setCell ⟨b, 8, none⟩ (.slice none 0 0)) b (deskC s p mode at_ { M with bm := w.heap.size, pA := none, pn := 0, pc := 0 }) 93) := hid ((hb1.set 7 _).set 8 _)
  have hsa : ∀ k, k ≠ b → (((w.alloc (.map #[] 0)).setCell ⟨b, 7, none⟩ (.map (some w.heap.size))).setCell ⟨b, 8, none⟩ (.slice none 0 0)).heap[k]? = (w.alloc (.map #[] 0)).heap[k]? := fun k hk => by rw [(setCell_at _ b _ _).2 k hk, (setCell_at _ b _ _).2 k hk]
  have m3 := hid (m0.keep (hsa _ (by have := hbl.out; omega)))
  have l3 := hid (hl1.keep (hsa _ (Ne.symm hne)))
  have M3 := hid (((Mv.of (F := fun k => k = b ∨ k = M.bl) x1).set (g := b) (.inl (.inl rfl)) 7 (.map (some w.heap.size))).set (g := b) (.inl (.inl rfl)) 8 (.slice none 0 0))
  have hbm := hid (show w.heap.size < (((w.alloc (.map #[] 0)).setCell ⟨b, 7, none⟩ (.map (some w.heap.size))).setCell ⟨b, 8, none⟩ (.slice none 0 0)).heap.size from m3.out.lt)
  clear hb hl x1 m0 hb1 hl1 hsa
  go_enter Tryz.func92, Tryz.ntmps92
  go_upto_region 1 with fail
  clear a7 a8 z7 z8 hmm
  generalize ((w.alloc (.map #[] 0)).setCell ⟨b, 7, none⟩ (.map (some w.heap.size))).setCell ⟨b, 8, none⟩ (.slice none 0 0) = w3 at *
  obtain ⟨bm, hbm0⟩ : ∃ bm, bm = w.heap.size := ⟨_, rfl⟩
  rw [← hbm0] at k3 m3 hbm
  simp only [← hbm0]
  obtain ⟨w4, hrun, ⟨cnt, hR⟩, hx4⟩ := l3.out.range (t := 87) Tryz.underlying87
  have a21 : w3.cell? ⟨b, 21, none⟩ = some (.map (some M.bl)) := k3.out.at rfl
  obtain ⟨r, hr0⟩ : ∃ r, r = w3.heap.size := ⟨_, rfl⟩
  rw [← hr0] at hrun hR
  have k4 := hid (k3.out.ext hx4)
  have m4 := hid (m3.out.ext hx4)
  have M4 := hid (M3.out.ext hx4)
  have hrb : r ≠ b ∧ r ≠ bm ∧ w.heap.size ≤ r := ⟨by have := k3.out.lt; omega, by have := m3.out.lt; omega, by have := M3.out.size; omega⟩
  have hR := hid hR
  have hbm0 := hid hbm0
  clear k3 m3 l3 M3 hr0
  go_wp2_with fail
  go_loopw [] (fun wr => ∃ (l : List Int) (D : Int → Bool) (cnt : Nat), Hid (Ranging keyI wr M.bl r (lkK l) D cnt ∧ (∀ k ∈ l, D k = false)) ∧ Hid (Bk wr b (deskC s p mode at_ { M with bm := bm, pA := none, pn := 0, pc := 0 }) 93) ∧ Hid (IsMap keyI wr bm []) ∧ Hid (Mv w wr (fun k => k = b ∨ k = M.bl)) ∧ Hid (bm < wr.heap.size)) (fun wr => leftW wr r)
  case atStart => exact ⟨M.lk, _, cnt, hid ⟨hR.out, fun _ _ => rfl⟩, k4, m4, M4, hid (Nat.lt_of_lt_of_le hbm.out hx4.size)⟩
  case round =>
    clear k4 m4 M4 hR a21
    obtain ⟨l, D, cnt', hR, hk, hm, hM, hbs⟩ := hrel
    obtain ⟨hRg, hD⟩ := hR.out
    have hlm := hRg.left
    have hRm := hRg.map.lt
    have hrl := hRg.rlt
    rcases hRg.next 0 with ⟨hall, hnx⟩ | ⟨k, v, w5, cnt5, hkv, hDk, hnx, hR5, hlt5, hg5, hs5, hen⟩
    · have hl0 : l = [] := by
        cases l with
        | nil => rfl
        | cons a l =>
          have h1 := hall (a, .int .i64 0) (List.mem_map.2 ⟨a, List.mem_cons_self, rfl⟩)
          rw [hD a List.mem_cons_self] at h1
          cases h1
      have hfin := hid (show IsMap keyI wr M.bl [] from by have := hRg.map; rw [hl0] at this; exact this)
      clear hR hRg hall hD
      go_wp2
      refine bodyPost_end (v := .tuple #[]) (by simp [results, Tryz.results92]) rfl ?_
      exact ⟨rfl, bm, hk.out, hfin.out, hm.out, by have := hbm0.out; omega, hbs.out, hM.out⟩
    · obtain ⟨k0, hk0, e0⟩ := List.mem_map.1 hkv
      obtain ⟨rfl, rfl⟩ : k0 = k ∧ v = .int .i64 0 := ⟨(Prod.mk.inj e0).1, (Prod.mk.inj e0).2.symm⟩
      change Sem.run _ _ _ = .ok (Value.tuple #[.bool true, .int .i64 k0, .int .i64 0]) _ at hnx
      change Sem.run _ _ _ = .ok (Value.tuple #[.int .i64 k0, .int .i64 0]) _ at hen
      obtain ⟨w6, cnt6, hdel, hR6, hlt6, hg6, hs6⟩ := hR5.del (t := 87) (ty := 0) Tryz.underlying87 k0
      change Sem.run _ (Builtin.delete_ _ _ #[_, .int .i64 k0]) _ = _ at hdel
      have hk5 := hk.out.keep (w' := w5) (hg5.block b (by have := hk.out.lt; exact this) (fun e => by injection e with e; exact hrb.1 e.symm))
      have a21 : w5.cell? ⟨b, 21, none⟩ = some (.map (some M.bl)) := hk5.at rfl
      have hk6 := hid (hk5.keep (w' := w6) (hg6.block b hk5.lt (fun e => by injection e with e; exact hne e)))
      have hm5 := hm.out.keep (w' := w5) (hg5.block bm hm.out.lt (fun e => by injection e with e; exact hrb.2.1 e.symm))
      have hm6 := hid (hm5.keep (w' := w6) (hg6.block bm hm5.lt (fun e => by injection e with e; have := hll.out; have := hbm0.out; omega)))
      have hM6 := hid ((hM.out.grown hg5 (fun g e => .inr (by injection e with e; omega))).grown hg6 (fun g e => .inl (.inr (by injection e with e; exact e.symm))))
      have hbs6 := hid (show bm < w6.heap.size from by rw [hs6, hs5]; exact hbs.out)
      rw [rm_lk] at hR6
      have hR6' : Hid (Ranging keyI w6 M.bl r (lkK (l.filter (fun x => decide (x ≠ k0)))) (fun x => D x || decide (x = k0)) cnt6 ∧ ∀ x ∈ l.filter (fun x => decide (x ≠ k0)), (D x || decide (x = k0)) = false) := hid ⟨hR6, fun x hx => by
        obtain ⟨h1, h2⟩ := List.mem_filter.1 hx
        rw [hD x h1]
        simpa using h2⟩
      have hlt : leftW w6 r < leftW wr r := by rw [hR6.left, hlm]; omega
      clear hR hRg hD hR5 hR6 hg5 hg6 hkv hk hm hM hbs hk5 hm5 hk0 e0
      go_wp2
      go_roundw
      case rel => exact ⟨_, _, _, hR6', hk6, hm6, hM6, hbs6⟩
      case measure => exact hlt
end Go.Proofs.YtngoebbmgpdeiaaGreatDoor
namespace Go.Proofs
open Go.RowKit Go.Maps Go.Sort Go.Shelf
theorem Tryz.sortsA (m : Nat) : AnyZI.SortsIn Tryz.prog Tryz.sortedA_ren Fence.wide m :=
  ⟨fun blk off cap ss W hH hblk hsz => callsIn_wide.2 (AnyM.slices_Sort_int Tryz.sortA blk off cap ss W hH hblk hsz),
   fun p cap W => callsIn_wide.2 (AnyM.slices_Sort_int_none Tryz.sortA p cap W)⟩
theorem Tryz.keys_any (mb : Option Nat) (W : World) : Calls Tryz.prog 124 #[.map mb] W fun e w' => e = .returned (.func (.func 171) #[] #[.pointer (some ⟨W.heap.size, 0, none⟩)]) ∧ w' = W.alloc (.cells #[.map mb] 88) :=
  (callsIn_wide (n := 5)).1 (AnyZI.keys_in Tryz.keysA Fence.wide 5 trivial rfl mb W)
theorem Tryz.sorted_any {H : Type} (b nn : Nat) (D0 : DataW H) (R : Value → Option (DataW H × List MemPlace)) (w : World) (hown : w.ownsMap Tryz.prog 3 R b nn D0) (hmax : Maps.size D0 ≤ maxLen) (hbytes : Maps.size D0 * 8 ≤ 140737488355328) :
    Calls Tryz.prog 123 #[.func (.func 171) #[] #[.pointer (some ⟨w.heap.size, 0, none⟩)]] (w.alloc (.cells #[.map (some b)] 88)) fun e w' => ∃ (v : Value) (ss : List Int), e = .returned v ∧ ss.Perm (intKeys D0) ∧
      w'.ownsRow (w.alloc (.cells #[.map (some b)] 88)).heap.size 3 1 v ss.length ((ss.mergeSort (fun x y => decide (x ≤ y))).map encZ) ∧ Below (w.alloc (.cells #[.map (some b)] 88)).heap.size (w.alloc (.cells #[.map (some b)] 88)) w' := by
  have hbl := hown.lt
  have hseq : SeqGives Fence.wide 2 Tryz.prog 171 #[.pointer (some ⟨w.heap.size, 0, none⟩)] encZ (fun ss => ss.Perm (intKeys D0)) (Maps.size D0) (w.alloc (.cells #[.map (some b)] 88)) :=
    AnyZI.keys_gives (ρ := Tryz.keysA_ren) { Tryz.keysA with } Fence.wide _ trivial rfl (by omega) w.heap.size b nn D0 _ (by simp) (by simp) (by
      obtain ⟨es, clock, hb, Ft, hs, hD⟩ := hown
      exact ⟨es, clock, (Below.heap_alloc _ _ b hbl).trans hb, Ft, hs, hD⟩)
  have cS := AnyZI.sorted_in Tryz.sortedA Fence.wide 5 trivial trivial trivial trivial rfl (by omega) (Tryz.sortsA _) (enters_of Tryz.func170 (by kernel_rfl) rfl) 171 #[.pointer (some ⟨w.heap.size, 0, none⟩)] trivial (enters_of Tryz.func171 (by kernel_rfl) rfl) _ _ hmax hbytes _ hseq
  change CallsIn _ _ Tryz.prog 123 _ _ _ at cS
  refine ((callsIn_wide (n := 5)).1 cS).mono ?_
  rintro e w' ⟨v, ss, rfl, hS, hrow, hnil, hb⟩
  exact ⟨v, ss, rfl, hS, hrow, hb⟩
end Go.Proofs
namespace Go.Proofs.YtngoebbmgpdeiaaGreatDoor
open Go.RowKit Go.Maps Go.Shelf Go.WideElems
theorem key3 (x : Int) (h : 0 ≤ x ∧ x ≤ 1000) : keyOf Tryz.prog 3 (.int .i64 x) = some (.int .i64 x) := by
  have hw : (Lit.int .i64 x).wf = true := by
    have e1 : IntKind.i64.min = -9223372036854775808 := by kernel_rfl
    have e2 : IntKind.i64.max = 9223372036854775807 := by kernel_rfl
    unfold Lit.wf
    simp only
    rw [e1, e2]
    simp
    omega
  simp [keyOf, Tryz.underlying3, mapKey, hw]
def R0 : Value → Option (DataW Unit × List MemPlace) := fun _ => some (.lit (.bool true), [])
theorem own_of_map {w : World} {b : Nat} {kv : List (Int × Value)} (h : IsMap keyI w b kv) (hr : ∀ p ∈ kv, 0 ≤ p.1 ∧ p.1 ≤ 1000) (hl : kv.length ≤ 1000) : ∃ D0 : DataW Unit, w.ownsMap Tryz.prog 3 R0 b kv.length D0 ∧ (∀ x ∈ intKeys D0, ∃ v, (x, v) ∈ kv) ∧ Maps.size D0 = kv.length := by
  obtain ⟨es, clock, h1, h2, h3, h4, h5⟩ := h
  have hlen : es.toList.length = kv.length := by have := congrArg List.length h2; simpa using this
  have hkeys : es.toList.map (·.key) = (kv.map (·.1)).map keyI.enc := by
    have := congrArg (fun l => l.map (·.1)) h2
    simp only [List.map_map] at this ⊢
    exact this
  have hx : ∀ x ∈ es.toList, ∃ p ∈ kv, x.key = .int .i64 p.1 := fun x hx => by
    have : x.key ∈ (kv.map (·.1)).map keyI.enc := by rw [← hkeys]; exact List.mem_map.2 ⟨x, hx, rfl⟩
    obtain ⟨k, hk, e⟩ := List.mem_map.1 this
    obtain ⟨p, hp, rfl⟩ := List.mem_map.1 hk
    exact ⟨p, hp, e.symm⟩
  have hrd : ∀ x ∈ es.toList, ∃ p ∈ kv, rd Tryz.prog 3 R0 x = some (.int .i64 p.1, .lit (.bool true)) := fun x hxm => by
    obtain ⟨p, hp, e⟩ := hx x hxm
    refine ⟨p, hp, ?_⟩
    unfold rd
    rw [e, key3 p.1 (hr p hp)]
    rfl
  refine ⟨_, ⟨es, clock, h1, ⟨by rw [← Array.length_toList, hlen]; unfold maxLen; omega, ⟨h3, h4, by rw [hkeys]; exact nodup_on (fun a b h => KeyEnc.inj h) h5⟩, fun x hxm => by obtain ⟨p, hp, e⟩ := hrd x hxm; exact ⟨_, e⟩⟩, by rw [← Array.length_toList, hlen]; exact Nat.le_refl _, rfl⟩, fun x hxm => ?_, ?_⟩
  · obtain ⟨q, hq, e⟩ := List.mem_map.1 hxm
    obtain ⟨y, hy, e2⟩ := List.mem_map.1 (mem_sorted.1 hq)
    obtain ⟨p, hp, e3⟩ := hrd y hy
    have e4 : rg Tryz.prog 3 R0 y = (.int .i64 p.1, .lit (.bool true)) := by unfold rg; rw [e3]; rfl
    rw [e4] at e2
    subst e2
    have : x = p.1 := by rw [← e]; rfl
    exact ⟨p.2, by rw [this]; exact hp⟩
  · rw [size_eq, (WideShapes.sorted_perm _).length_eq, List.length_map, hlen]
open Go.RowKit Go.Shelf Go.MuLone
theorem look88_mem {w : World} {bm : Nat} {l : List (Int × Rr × Rr)} {e : Int × Rr × Rr} (h : IsMap keyI w bm (chK l)) (he : e ∈ l) (ok : Bool) : (Instr.lookup 88 (.map (some bm)) (.int .i64 e.1) ok).run Tryz.prog w = .ok (if ok then .tuple #[chV e.2.1 e.2.2, .bool true] else chV e.2.1 e.2.2) w := by
  have hn : ((chK l).map (·.1)).Nodup := by obtain ⟨es, c, _, _, _, _, h5⟩ := h; exact h5
  have hk : lk (chK l) e.1 = some (chV e.2.1 e.2.2) := mem_lk hn (List.mem_map.2 ⟨e, he, rfl⟩)
  have := h.look Tryz.underlying88 (zero156 w) e.1 ok
  rw [hk] at this
  exact this
def RdK (w : World) (A : Option Addr) (n : Nat) (Q : Int → Prop) : Prop := ∀ i, i < n → ∃ ad k, A = some ad ∧ w.cell? (ad.add i) = some (.int .i64 k) ∧ Q k
theorem RdK.ext {w w' : World} {A : Option Addr} {n : Nat} {Q : Int → Prop} (h : RdK w A n Q) (hx : Ext w w') : RdK w' A n Q := fun i hi => by
  obtain ⟨ad, k, e, c, q⟩ := h i hi
  exact ⟨ad, k, e, hx.cell c, q⟩
theorem RdK.of {w : World} {lo : Nat} {A : Option Addr} {c : Nat} {ss : List Int} {Q : Int → Prop} (h : w.ownsRow lo 3 1 (.slice A ss.length c) ss.length ((ss.mergeSort (fun x y => decide (x ≤ y))).map Go.encZ)) (hq : ∀ x ∈ ss, Q x) : RdK w A ss.length Q := fun i hi => by
  have hr := Rd.of_own h
  obtain ⟨ad, e, hc⟩ := hr.2.2.2 (by omega)
  have hp := List.mergeSort_perm ss (fun x y => decide (x ≤ y))
  have hl : i < (ss.mergeSort (fun x y => decide (x ≤ y))).length := by rw [hp.length_eq]; exact hi
  refine ⟨ad, (ss.mergeSort (fun x y => decide (x ≤ y)))[i], e, hc i _ ?_, hq _ (hp.mem_iff.1 (List.getElem_mem hl))⟩
  rw [List.getElem?_map, List.getElem?_eq_getElem hl]
  rfl
section
variable {lo b : Nat} {s p : Int} {fs : List Fd} {rs vb ra : List Rc} {mode at_ : Int} {M : Dm}
theorem sortedKeys_any (w : World) (H : DeskI w lo b s p fs rs vb ra mode at_ M) (hl : rs.length ≤ 300) (hc : M.ch.length ≤ 1000) : Calls Tryz.prog 124 #[.map (some M.bm)] w (fun e w1 => e = .returned (.func (.func 171) #[] #[.pointer (some ⟨w.heap.size, 0, none⟩)]) ∧ w1 = w.alloc (.cells #[.map (some M.bm)] 88)) ∧
    Calls Tryz.prog 123 #[.func (.func 171) #[] #[.pointer (some ⟨w.heap.size, 0, none⟩)]] (w.alloc (.cells #[.map (some M.bm)] 88)) fun e w' => ∃ A n c, e = .returned (.slice A n c) ∧ n ≤ 9223372036854775807 ∧ n ≤ c ∧ c ≤ 9223372036854775807 ∧ RdK w' A n (fun k => ∃ e ∈ M.ch, e.1 = k) ∧ Ext w w' := by
  refine ⟨Tryz.keys_any _ w, ?_⟩
  obtain ⟨D0, h1, h2, h3⟩ := own_of_map H.cm (fun p hp => by
    obtain ⟨e, he, rfl⟩ := List.mem_map.1 hp
    obtain ⟨i, h4, h5, _⟩ := H.cv e he
    simp only
    omega) (by rw [chK_len]; exact hc)
  rw [chK_len] at h1 h3
  refine (Tryz.sorted_any M.bm M.ch.length D0 R0 w h1 (by rw [h3]; unfold maxLen; omega) (by rw [h3]; omega)).mono ?_
  rintro e w' ⟨v, ss, rfl, hp, hrow, hx⟩
  obtain ⟨A, c, rfl, -⟩ := own_form hrow
  have hm := Rd.max (Rd.of_own hrow)
  refine ⟨A, _, c, rfl, hm.1, hm.2.1, hm.2.2, RdK.of hrow (fun x hx => ?_), (Ext.new w _).trans hx⟩
  obtain ⟨v, hv⟩ := h2 x (hp.mem_iff.1 hx)
  obtain ⟨e, he, e1⟩ := List.mem_map.1 hv
  exact ⟨e, he, (Prod.mk.inj e1).1⟩
theorem clashing_any (w : World) (H : DeskI w lo b s p fs rs vb ra mode at_ M) (hl : rs.length ≤ 300) (hc : M.ch.length ≤ 1000) (hf : fs.length ≤ 16) : Calls Tryz.prog 90 #[.pointer (some ⟨b, 0, none⟩), .pointer (some ⟨b, 5, none⟩)] w (Give (.slice none 0 0) w) := by
  obtain ⟨q1, q2⟩ := sortedKeys_any w H hl hc
  have q1 := hid q1
  have q2 := hid q2
  obtain ⟨a0, a2, a3, a4, a5, a6, a7, a8, a21⟩ := H.c
  have H := hid H
  go_enter Tryz.func90, Tryz.ntmps90
  go_wp2_with fail
  refine q1.out.mono ?_
  rintro e w1 ⟨rfl, rfl⟩
  go_wp2_with fail
  refine q2.out.mono ?_
  rintro e w2 ⟨A, n, c, rfl, hn1, hn2, hn3, hK, hx2⟩
  have hK := hid hK
  have hx2 := hid hx2
  clear q1 q2 a0 a2 a3 a4 a5 a6 a7 a8 a21
  go_wp2_with fail
  go_loopw [5, 15] (fun t v wr => t = .slice none 0 0 ∧ ∃ k : Nat, k ≤ n ∧ v = .int .i64 k ∧ Hid (Ext w2 wr)) (fun _ v _ => n - (intOf v).toNat)
  case atStart => exact ⟨rfl, 0, by omega, rfl, Ext.refl _⟩
  case round =>
    obtain ⟨rfl, k, hk, rfl, hx⟩ := hrel
    by_cases hlt : k < n
    · obtain ⟨ad, kk, rfl, c0, e, he, rfl⟩ := (hK.out.ext hx.out) k hlt
      obtain ⟨i, hi, hei, hvo, hvn⟩ := H.out.cv e he
      have H4 := hid (H.out.ext (hx2.out.trans hx.out))
      obtain ⟨gB, eB, hg1, hg2, r0, r1, hvr⟩ := H4.out.ow.at_ hi
      have i3 := IntWalk.i64_in ((i : Int) + 1 - 1) (by omega)
      have i4 := IntWalk.i64_in (i : Int) (by omega)
      have i5 : 0 ≤ (i : Int) ∧ (i : Int) < rs.length := by omega
      have hcl := hid (fun w' (hx' : Ext wr w') => clashes_any e.2.1 e.2.2 ⟨(rth rs i).gone, (rrth M.t.rr i).A, fs.length, (rrth M.t.rr i).c⟩ (rth rs i) (rth vb i) fs.length w' ((hvo.keep ((hx2.out.trans (hx.out.trans hx')).block hvo.lt.2)).rd) ((hvn.keep ((hx2.out.trans (hx.out.trans hx')).block hvn.lt.2)).rd)
        ⟨rfl, by have h := (hvr.keep (hx'.block hvr.lt.2)).rd.2; rw [hvr.2.1] at h; exact h⟩ hvo.2.2.1 hvn.2.2.1 (by omega))
      unfold chV at hcl
      have hei := hid hei
      have he := hid he
      clear hvo hvn hvr r0 r1
      rw [hei.out] at c0
      go_upto_region 5 with fail
      clear c0
      have xa := (Ext.refl wr).drew_right
      refine region_J (fun w' => Ext wr w') 16 (by kernel_rfl) ?_
      generalize wr.drew = da at xa ⊢
      refine JR 0 (v := ?va1) rfl (by kernel_rfl) rfl ?ya1 xa ?ra1
      case ya1 => (intro w hw; (go_simp; with_reducible rfl))
      simp only [Act.put, lyA, lyB, lyC, lyD, lyE, lyF]
      refine JR 1 (v := ?va2) rfl (by kernel_rfl) rfl ?ya2 xa ?ra2
      case ya2 => (intro w hw; (go_simp; with_reducible rfl))
      simp only [Act.put, lyA, lyB, lyC, lyD, lyE, lyF]
      refine JR 2 (v := ?va3) rfl (by kernel_rfl) rfl ?ya3 xa ?ra3
      case ya3 => (intro w hw; (go_simp; with_reducible rfl))
      simp only [Act.put, lyA, lyB, lyC, lyD, lyE, lyF]
      refine JR 3 (v := ?va4) rfl (by kernel_rfl) rfl ?ya4 xa ?ra4
      case ya4 => (intro w hw; obtain ⟨a0, a2, a3, a4, a5, a6, a7, a8, a21⟩ := (H4.out.ext hw).c; obtain ⟨gB', eB', -, -, r0, r1, -⟩ := (H4.out.ext hw).ow.at_ hi; have e9 : gB' = gB := (by (rw [eB] at eB'; injection eB' with eB'; injection eB' with eB'; exact eB'.symm)); rw [e9] at r0 r1; rw [eB] at a4; have hlk := look88_mem (H4.out.ext hw).cm he.out false; rw [hei.out, if_neg (by decide)] at hlk; unfold chV at hlk; (go_simp; with_reducible rfl))
      simp only [Act.put, lyA, lyB, lyC, lyD, lyE, lyF]
      refine JR 4 (v := ?va5) rfl (by kernel_rfl) rfl ?ya5 xa ?ra5
      case ya5 => (intro w hw; (go_simp; with_reducible rfl))
      simp only [Act.put, lyA, lyB, lyC, lyD, lyE, lyF]
      refine JR 5 (v := ?va6) rfl (by kernel_rfl) rfl ?ya6 xa ?ra6
      case ya6 => (intro w hw; obtain ⟨a0, a2, a3, a4, a5, a6, a7, a8, a21⟩ := (H4.out.ext hw).c; obtain ⟨gB', eB', -, -, r0, r1, -⟩ := (H4.out.ext hw).ow.at_ hi; have e9 : gB' = gB := (by (rw [eB] at eB'; injection eB' with eB'; injection eB' with eB'; exact eB'.symm)); rw [e9] at r0 r1; rw [eB] at a4; have hlk := look88_mem (H4.out.ext hw).cm he.out false; rw [hei.out, if_neg (by decide)] at hlk; unfold chV at hlk; (go_simp; with_reducible rfl))
      simp only [Act.put, lyA, lyB, lyC, lyD, lyE, lyF]
      refine JR 6 (v := ?va7) rfl (by kernel_rfl) rfl ?ya7 xa ?ra7
      case ya7 => (intro w hw; (go_simp; with_reducible rfl))
      simp only [Act.put, lyA, lyB, lyC, lyD, lyE, lyF]
      refine JR 7 (v := ?va8) rfl (by kernel_rfl) rfl ?ya8 xa ?ra8
      case ya8 => (intro w hw; (go_simp; with_reducible rfl))
      simp only [Act.put, lyA, lyB, lyC, lyD, lyE, lyF]
      refine JR 8 (v := ?va9) rfl (by kernel_rfl) rfl ?ya9 xa ?ra9
      case ya9 => (intro w hw; (go_simp; with_reducible rfl))
      simp only [Act.put, lyA, lyB, lyC, lyD, lyE, lyF]
      refine JR 9 (v := ?va10) rfl (by kernel_rfl) rfl ?ya10 xa ?ra10
      case ya10 => (intro w hw; (go_simp; with_reducible rfl))
      simp only [Act.put, lyA, lyB, lyC, lyD, lyE, lyF]
      refine JR 10 (v := ?va11) rfl (by kernel_rfl) rfl ?ya11 xa ?ra11
      case ya11 => (intro w hw; obtain ⟨a0, a2, a3, a4, a5, a6, a7, a8, a21⟩ := (H4.out.ext hw).c; obtain ⟨gB', eB', -, -, r0, r1, -⟩ := (H4.out.ext hw).ow.at_ hi; have e9 : gB' = gB := (by (rw [eB] at eB'; injection eB' with eB'; injection eB' with eB'; exact eB'.symm)); rw [e9] at r0 r1; rw [eB] at a4; have hlk := look88_mem (H4.out.ext hw).cm he.out false; rw [hei.out, if_neg (by decide)] at hlk; unfold chV at hlk; (go_simp; with_reducible rfl))
      simp only [Act.put, lyA, lyB, lyC, lyD, lyE, lyF]
      refine JR 11 (v := ?va12) rfl (by kernel_rfl) rfl ?ya12 xa ?ra12
      case ya12 => (intro w hw; (go_simp; with_reducible rfl))
      simp only [Act.put, lyA, lyB, lyC, lyD, lyE, lyF]
      refine JR 12 (v := ?va13) rfl (by kernel_rfl) rfl ?ya13 xa ?ra13
      case ya13 => (intro w hw; (go_simp; with_reducible rfl))
      simp only [Act.put, lyA, lyB, lyC, lyD, lyE, lyF]
      refine JR 13 (v := ?va14) rfl (by kernel_rfl) rfl ?ya14 xa ?ra14
      case ya14 => (intro w hw; (go_simp; with_reducible rfl))
      simp only [Act.put, lyA, lyB, lyC, lyD, lyE, lyF]
      refine JR 14 (v := ?va15) rfl (by kernel_rfl) rfl ?ya15 xa ?ra15
      case ya15 => (intro w hw; obtain ⟨a0, a2, a3, a4, a5, a6, a7, a8, a21⟩ := (H4.out.ext hw).c; obtain ⟨gB', eB', -, -, r0, r1, -⟩ := (H4.out.ext hw).ow.at_ hi; have e9 : gB' = gB := (by (rw [eB] at eB'; injection eB' with eB'; injection eB' with eB'; exact eB'.symm)); rw [e9] at r0 r1; rw [eB] at a4; have hlk := look88_mem (H4.out.ext hw).cm he.out false; rw [hei.out, if_neg (by decide)] at hlk; unfold chV at hlk; (go_simp; with_reducible rfl))
      simp only [Act.put, lyA, lyB, lyC, lyD, lyE, lyF]
      refine J_one 15 rfl (by kernel_rfl) (fun K hK => ?_)
      go_simp
      refine (hcl.out _ xa).mono ?_
      rintro e9 wa16 ⟨rfl, hxa16⟩
      refine hK _ _ ⟨fun _ => ((xa).trans hxa16), ?_⟩
      clear hK K
      try simp only [Act.put, lyA, lyB, lyC, lyD, lyE, lyF]
      have xa16 := ((xa).trans hxa16)
      refine J_done (by kernel_rfl) (OnlyOn.normal ?_)
      replace hx := hid (hx.out.trans xa16)
      clear hcl
      go_wp2
      go_roundw
      case rel => exact ⟨rfl, k + 1, by omega, by go_num, hx⟩
      case measure => simp [intOf]; omega
    · obtain rfl : k = n := by omega
      go_wp2
      go_ret
      exact ⟨rfl, hx2.out.trans hx.out⟩
end
open Go.RowKit Go.Shelf Go.MuLone
theorem nodup_bound : ∀ (n : Nat) (l : List Nat), l.Nodup → (∀ x ∈ l, x < n) → l.length ≤ n
  | 0, l, _, h => by
    cases l with
    | nil => simp
    | cons x l => exact absurd (h x List.mem_cons_self) (by omega)
  | n + 1, l, hn, h => by
    by_cases hm : n ∈ l
    · have h1 := nodup_bound n (l.erase n) (hn.erase n) (fun x hx => by
        have h2 := h x (List.mem_of_mem_erase hx)
        have h3 : x ≠ n := fun e => by subst e; exact (List.Nodup.not_mem_erase hn) hx
        omega)
      rw [List.length_erase_of_mem hm] at h1
      omega
    · have h1 := nodup_bound n l hn (fun x hx => by
        have h2 := h x hx
        have h3 : x ≠ n := fun e => by subst e; exact hm hx
        omega)
      omega
section
variable {w w' : World} {lo b : Nat} {s p : Int} {fs : List Fd} {rs vb ra : List Rc} {mode at_ : Int} {M : Dm}
theorem DeskI.ndup (h : DeskI w lo b s p fs rs vb ra mode at_ M) : (M.ch.map (·.1)).Nodup := by
  obtain ⟨es, c, _, _, _, _, h5⟩ := h.cm
  have e : (chK M.ch).map (·.1) = M.ch.map (·.1) := by simp [chK]
  rwa [e] at h5
theorem DeskI.chlen (h : DeskI w lo b s p fs rs vb ra mode at_ M) : M.ch.length ≤ rs.length := by
  have hn := h.ndup
  have h1 := nodup_bound rs.length ((M.ch.map (·.1)).map (fun k => (k - 1).toNat)) (by
    have key : ∀ l : List Int, l.Nodup → (∀ k ∈ l, 1 ≤ k) → (l.map (fun k => (k - 1).toNat)).Nodup := fun l => by
      induction l with
      | nil => intro _ _; simp
      | cons x l ih =>
        intro hn hk
        rw [List.nodup_cons] at hn
        rw [List.map_cons, List.nodup_cons]
        refine ⟨fun hm => ?_, ih hn.2 (fun k q => hk k (List.mem_cons_of_mem _ q))⟩
        obtain ⟨y, hy, e⟩ := List.mem_map.1 hm
        have h1 := hk x List.mem_cons_self
        have h2 := hk y (List.mem_cons_of_mem _ hy)
        have : x = y := by omega
        subst this
        exact hn.1 hy
    exact key _ hn (fun k hk => by
      obtain ⟨e, he, rfl⟩ := List.mem_map.1 hk
      obtain ⟨i, _, h2, _⟩ := h.cv e he
      omega)) (fun x hx => by
    obtain ⟨k, hk, rfl⟩ := List.mem_map.1 hx
    obtain ⟨e, he, rfl⟩ := List.mem_map.1 hk
    obtain ⟨i, h1, h2, _⟩ := h.cv e he
    omega)
  simpa using h1
end
theorem look87 {w : World} {bl : Nat} {l : List Int} (h : IsMap keyI w bl (lkK l)) (k : Int) : ∃ t : Bool, (Instr.lookup 87 (.map (some bl)) (.int .i64 k) true).run Tryz.prog w = .ok (.tuple #[.int .i64 0, .bool t]) w := by
  have hz : (zeroValue 3).run Tryz.prog w = .ok (.int .i64 0) w := by kernel_rfl
  have := h.look Tryz.underlying87 hz k true
  rcases hl : lk (lkK l) k with _ | v
  · rw [hl] at this; exact ⟨false, this⟩
  · obtain ⟨k', _, e⟩ := List.mem_map.1 (lk_mem hl)
    have hv : v = .int .i64 0 := (Prod.mk.inj e).2.symm
    rw [hl, hv] at this
    exact ⟨true, this⟩
def mixR (D : Int → Bool) (rs vb : List Rc) : List Rc := (List.range rs.length).map (fun (i : Nat) => if D ((i : Int) + 1) then rth vb i else rth rs i)
theorem mixR_len (D : Int → Bool) (rs vb : List Rc) : (mixR D rs vb).length = rs.length := by simp [mixR]
theorem mixR_at (D : Int → Bool) {rs vb : List Rc} {i : Nat} (h : i < rs.length) : rth (mixR D rs vb) i = if D ((i : Int) + 1) then rth vb i else rth rs i := by
  rw [rth_get (by rw [mixR_len]; exact h)]
  simp [mixR]
theorem rth_ext {a b : List Rc} (hl : a.length = b.length) (h : ∀ i, i < a.length → rth a i = rth b i) : a = b := by
  apply List.ext_getElem hl
  intro i h1 h2
  have := h i h1
  rwa [rth_get h1, rth_get h2] at this
theorem mixR_none {D : Int → Bool} {rs vb : List Rc} (h : ∀ k, D k = false) : mixR D rs vb = rs := rth_ext (mixR_len _ _ _) (fun i hi => by
  rw [mixR_len] at hi
  rw [mixR_at D hi, h]; rfl)
theorem mixR_set {D : Int → Bool} {rs vb : List Rc} {i : Nat} (h : i < rs.length) : (mixR D rs vb).set i (rth vb i) = mixR (fun x => D x || decide (x = (i : Int) + 1)) rs vb := rth_ext (by simp [mixR_len]) (fun j hj => by
  rw [List.length_set, mixR_len] at hj
  rw [mixR_at _ hj]
  by_cases e : j = i
  · subst e
    rw [rth_set_same (by rw [mixR_len]; exact hj)]
    simp
  · rw [rth_set_ne e, mixR_at D hj]
    have : decide ((j : Int) + 1 = (i : Int) + 1) = false := by simp; omega
    rw [this, Bool.or_false])
theorem mixR_all {D : Int → Bool} {rs vb : List Rc} (hl : vb.length = rs.length) (h : ∀ i : Nat, i < rs.length → D ((i : Int) + 1) = true ∨ rth vb i = rth rs i) : mixR D rs vb = vb := rth_ext (by rw [mixR_len, hl]) (fun i hi => by
  rw [mixR_len] at hi
  rw [mixR_at D hi]
  rcases h i hi with e | e
  · rw [e]; rfl
  · split
    · rfl
    · exact e.symm)
def LkT (t u : Tt) : Prop := u.A = t.A ∧ u.n = t.n ∧ u.c = t.c ∧ u.B = t.B ∧ u.m = t.m ∧ u.d = t.d ∧ ∀ k, u.F k → t.F k
theorem LkT.refl (t : Tt) : LkT t t := ⟨rfl, rfl, rfl, rfl, rfl, rfl, fun _ h => h⟩
theorem LkT.same {t u v : Tt} {i : Nat} (h : LkT t u) (h2 : SameT u v i) : LkT t v := by
  obtain ⟨a, b, c, d, e, f, g⟩ := h
  have hF := fun k => h2.F (k := k)
  obtain ⟨a', b', c', d', e', f', _⟩ := h2
  exact ⟨a'.trans a, b'.trans b, c'.trans c, d'.trans d, e'.trans e, f'.trans f, fun k q => g k (hF k q)⟩
open Classical in
noncomputable def tagN (b bm bl : Nat) (u : Tt) : Nat → Tg := fun k => if k = b then .desk else if k = bm then .chm else if k = bl then .lck else if u.F k then .tab else .no
theorem DeskI.none {w : World} {lo b : Nat} {s p : Int} {fs : List Fd} {rs : List Rc} {mode at_ : Int} {M : Dm} {u : Tt} {bm : Nat} (hb : Bk w b (deskC s p mode at_ { M with t := u, bm := bm, pA := Option.none, pn := 0, pc := 0 }) 93) (hu : OwTt w lo fs.length fs rs u)
    (hm : IsMap keyI w bm []) (hl : IsMap keyI w M.bl []) (h1 : b ≠ bm) (h2 : b ≠ M.bl) (h3 : bm ≠ M.bl) (h4 : ¬ u.F b) (h5 : ¬ u.F bm) (h6 : ¬ u.F M.bl) (h7 : lo ≤ b ∧ lo ≤ bm ∧ lo ≤ M.bl) :
    DeskI w lo b s p fs rs rs [] mode at_ { M with t := u, bm := bm, ch := [], pA := Option.none, pn := 0, pc := 0, pr := [], lk := [], τ := tagN b bm M.bl u } := by
  refine ⟨hb, hu, hm, hl, OwR.nil _ _ _, ⟨rfl, rfl⟩, fun e he => (by cases he), fun _ _ _ => rfl, rfl, by simp [tagN], fun k q => ?_, ?_, ?_, fun k q => ?_, fun e he => (by cases he), fun k q => ?_⟩
  · have a1 : k ≠ b := fun e => h4 (e ▸ q)
    have a2 : k ≠ bm := fun e => h5 (e ▸ q)
    have a3 : k ≠ M.bl := fun e => h6 (e ▸ q)
    simp [tagN, a1, a2, a3, q]
  · simp [tagN, Ne.symm h1]
  · simp [tagN, Ne.symm h2, Ne.symm h3]
  · rcases q with q | ⟨i, hi, _⟩
    · cases q
    · cases hi
  · by_cases a1 : k = b
    · subst a1; exact ⟨h7.1, hb.lt⟩
    by_cases a2 : k = bm
    · subst a2; exact ⟨h7.2.1, hm.lt⟩
    by_cases a3 : k = M.bl
    · rw [a3]; exact ⟨h7.2.2, hl.lt⟩
    by_cases a4 : u.F k
    · exact hu.lt a4
    · exact absurd (by simp [tagN, a1, a2, a3, a4]) q
theorem tagN_F {b bm bl k : Nat} {u : Tt} (h : tagN b bm bl u k ≠ .no) : k = b ∨ k = bm ∨ k = bl ∨ u.F k := by
  by_cases a1 : k = b
  · exact .inl a1
  by_cases a2 : k = bm
  · exact .inr (.inl a2)
  by_cases a3 : k = bl
  · exact .inr (.inr (.inl a3))
  by_cases a4 : u.F k
  · exact .inr (.inr (.inr a4))
  · exact absurd (by simp [tagN, a1, a2, a3, a4]) h
end Go.Proofs.YtngoebbmgpdeiaaGreatDoor
