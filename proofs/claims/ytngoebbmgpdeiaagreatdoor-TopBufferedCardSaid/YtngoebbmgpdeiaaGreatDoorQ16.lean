/-
  A change that is stored is in the table: true; A desk: a mark, a value; A desk: a value is set; A desk: it is made; A desk: its table; A desk: what a record that is appended does with its memory. No function of the program in sight; A log: a committed table is given; A log: a transaction ends; what is committed.
-/
import Derived.Test.YtngoebbmgpdeiaaGreatDoorQ13
import Derived.Test.YtngoebbmgpdeiaaGreatDoorQ8
import Derived.Test.YtngoebbmgpdeiaaGreatDoorQ14
import Derived.Test.YtngoebbmgpdeiaaGreatDoorQ15
import Derived.Test.YtngoebbmgpdeiaaGreatDoorQ6
set_option maxRecDepth 100000
set_option maxHeartbeats 40000000
set_option linter.unusedVariables false
set_option linter.unusedSimpArgs false
namespace Go.Proofs.YtngoebbmgpdeiaaGreatDoor
open Go.RowKit Go.Shelf Go.MuLone
theorem OwTt.mk2 {w : World} {lo lo2 wd : Nat} {fs : List Fd} {rs : List Rc} {A B : Option Addr} {n c m d : Nat} {rr : List Rr} (hA : w.ownsRow lo 64 4 (.slice A n c) n (fds fs)) (hR : OwR w lo2 wd (.slice B m d) rr rs rs.length) (hl : rr.length = rs.length) (hm : m = rs.length) (hn : n = fs.length)
    (hlt : ∀ f, (Value.slice A n c).ownBlock = some f → f < lo2) (hlo : lo ≤ lo2) : OwTt w lo wd fs rs ⟨A, n, c, B, m, d, rr⟩ :=
  ⟨hA, hR.lo' hlo, hl, hm, hn, fun f hf => ⟨fun e => by have := (hR.1.lt f e).1; have := hlt f hf; omega, fun i hi e => by have := (hR.2.1 i hi).lt.1; have := hlt f hf; have e2 : rb (rrth rr i) = f := e; omega⟩⟩
def OwA (w : World) (lo : Nat) (A : Option Addr) (n c : Nat) (fs : List Fd) : Prop := w.ownsRow lo 64 4 (.slice A n c) n (fds fs)
theorem OwA.ext {w w' : World} {lo : Nat} {A : Option Addr} {n c : Nat} {fs : List Fd} (h : OwA w lo A n c fs) (hx : Ext w w') : OwA w' lo A n c fs := hx.own h
theorem OwA.lt {w : World} {lo : Nat} {A : Option Addr} {n c : Nat} {fs : List Fd} (h : OwA w lo A n c fs) (g : Nat) (hg : (Value.slice A n c).ownBlock = some g) : lo ≤ g ∧ g < w.heap.size := World.ownsRow.lt h g hg
section
variable {lo b n0 : Nat} {p : Int} {fs : List Fd} {rs : List Rc} {mode at_ : Int} {M : Dm}
theorem deskTable_any (w : World) (H : DeskE w lo b 0 p fs rs mode M) (hE : okT p fs rs) : Calls Tryz.prog 21 #[.pointer (some ⟨b, 0, none⟩)] w fun e w' =>
    ∃ A1 d1 B1 d2, e = .returned (tb p A1 fs.length d1 B1 rs.length d2) ∧ OwT w' w.heap.size fs.length fs rs A1 fs.length d1 B1 rs.length d2 ∧ Mv w w' (fun k => k = b) := by
  obtain ⟨at_, hat, H, hch⟩ := H
  have hl := hE.len
  have hW := hid hE.wid
  obtain ⟨w1, g, e1, h1, s1, kg, x1⟩ := newB w [.int .i64 0, .slice none 0 0, .slice none 0 0] 25
  have H1 := H.ext x1
  have hq := hid (enter_any b w1 (H1.bk.at rfl) (H1.bk.free 0))
  have hbg := hid (show b ≠ g from by have := H.bk.lt; have := h1.out; omega)
  have H2 := hid (H1.lock (s' := 1))
  have kg2 := hid (kg.other (g := b) (Ne.symm hbg.out) 0 (.int .i32 1))
  have m2 := hid ((Mv.of (F := fun k => k = b) x1).set (.inl rfl) 0 (.int .i32 1))
  have hgw := hid (show w.heap.size ≤ g from by have := h1.out; omega)
  have hbw := hid H.bk.lt
  clear H H1 kg x1 s1 hat hch
  unfold tb
  go_enter_defers Tryz.func21, Tryz.ntmps21
  go_upto_region 1 with fail
  simp only [e1.out, h1.out]
  clear e1 h1
  go_wp2_with fail
  refine hq.out.mono ?_
  rintro e w2 ⟨rfl, hx2⟩
  have H3 := hid (H2.out.ext hx2)
  have kg3 := hid (kg2.out.ext hx2)
  have m3 := hid (m2.out.ext hx2)
  clear hq hx2 H2 kg2 m2
  obtain ⟨a0, a2, a3, a4, a5, a6, a7, a8, a21⟩ := H3.out.c
  obtain ⟨w4, g6, e6, h6, s6, k6, x6⟩ := newB w2 [.int .i64 p, .slice M.t.A fs.length M.t.c, .slice M.t.B rs.length M.t.d] 25
  go_upto_region 6 with fail
  simp only [e6.out, h6.out]
  have H4 := hid (H3.out.ext x6)
  have kg4 := hid (kg3.out.ext x6)
  have m4 := hid (m3.out.ext x6)
  have k6 := hid k6
  have hg6 := hid (show w.heap.size ≤ g6 ∧ g < g6 ∧ b < g6 from by have := h6.out; have := m3.out.size; have := kg3.out.lt; have := H3.out.bk.lt; omega)
  clear e6 h6 s6 x6 H3 kg3 m3 a0 a2 a3 a4 a5 a6 a7 a8 a21
  have hcl := hid (fun w' (hx : Ext w4 w') => clone30 M.t.A fs.length M.t.c (fds fs) w' (by have h := (H4.out.ext hx).ow.rf; rw [(H4.out.ext hx).ow.2.2.2.2.1] at h; exact h) (fds_one fs) (by omega))
  have hca := hid (fun w' (hx : Ext w4 w') => copiedAll_any M.t.B rs.length M.t.d fs.length rs w' (by have h := (H4.out.ext hx).ow.rr; rw [(H4.out.ext hx).ow.2.2.2.1] at h; exact h) hl.1 (by omega) hW.out (by omega))
  have xa := (Ext.refl w4).drew_right
  refine region_K (fun w' => Ext w4 w') 7 (by kernel_rfl) ?_
  generalize w4.drew = da at xa ⊢
  refine KF 0 (v := ?va1) rfl (by kernel_rfl) rfl ?ya1 (.inr xa) ?ra1
  case ya1 => (intro w; (go_simp; with_reducible rfl))
  simp only [Act.put, lyA, lyB, lyC, lyD, lyE, lyF]
  refine KT 1 (v := ?va2) rfl (by kernel_rfl) rfl ?ya2 xa ?ra2
  case ya2 => (intro w hw; obtain ⟨q0, q1, q2⟩ := (k6.out.ext hw).c3; (go_simp; with_reducible rfl))
  simp only [Act.put, lyA, lyB, lyC, lyD, lyE, lyF]
  refine KF 3 (v := ?va3) rfl (by kernel_rfl) rfl ?ya3 (.inr xa) ?ra3
  case ya3 => (intro w; (go_simp; with_reducible rfl))
  simp only [Act.put, lyA, lyB, lyC, lyD, lyE, lyF]
  refine KT 4 (v := ?va4) rfl (by kernel_rfl) rfl ?ya4 xa ?ra4
  case ya4 => (intro w hw; obtain ⟨q0, q1, q2⟩ := (k6.out.ext hw).c3; (go_simp; with_reducible rfl))
  simp only [Act.put, lyA, lyB, lyC, lyD, lyE, lyF]
  refine K_one 2 rfl (by kernel_rfl) (fun K hK => ?_)
  go_simp
  refine (hcl.out _ xa).mono ?_
  rintro e wa5 ⟨A1, d1, rfl, oA0, hxa5⟩
  have hbase := hid (xa).size
  have hAlt := hid (fun g (hg : (Value.slice A1 fs.length d1).ownBlock = some g) => oA0.lt g hg)
  have oA : OwA wa5 w4.heap.size A1 fs.length d1 fs := own_baseK oA0 hbase.out
  clear oA0
  refine hK _ _ ⟨fun _ _ => ((xa).trans hxa5), ?_⟩
  clear hK K
  try simp only [Act.put, lyA, lyB, lyC, lyD, lyE, lyF]
  have xa5 := ((xa).trans hxa5)
  refine KF 6 (v := ?va6) rfl (by kernel_rfl) rfl ?ya6 (.inr xa5) ?ra6
  case ya6 => (intro w; (go_simp; with_reducible rfl))
  simp only [Act.put, lyA, lyB, lyC, lyD, lyE, lyF]
  refine K_one 5 rfl (by kernel_rfl) (fun K hK => ?_)
  go_simp
  refine (hca.out _ xa5).mono ?_
  rintro e wa7 ⟨B1, d2, rr, rfl, oR, orl, hxa7⟩
  have hlt2 := hid (fun g (hg : (Value.slice A1 fs.length d1).ownBlock = some g) => (oA.lt g hg).2)
  have hlo2 := hid (xa5).size
  have oT0 := hid (OwTt.mk2 (oA.ext hxa7) oR orl rfl rfl hlt2.out hlo2.out)
  clear hlt2 hlo2 oR orl
  refine hK _ _ ⟨fun _ _ => ((xa5).trans hxa7), ?_⟩
  clear hK K
  try simp only [Act.put, lyA, lyB, lyC, lyD, lyE, lyF]
  replace oA := oA.ext hxa7
  have xa7 := ((xa5).trans hxa7)
  refine K_end 7 rfl (by kernel_rfl) (by kernel_rfl) (fun K hK => ?_)
  have xs := hid (xa7)
  have k7 := k6.out.ext xs.out
  have z1 := k7.at (i := 1) rfl
  have fz := k7.free 1
  go_simp
  refine hK _ _ ?_
  have k8 := k7.set 1 (.slice A1 fs.length d1)
  have z2 := k8.at (i := 2) rfl
  have fz2 := k8.free 2
  clear hK K
  try simp only [Act.put, lyA, lyB, lyC, lyD, lyE, lyF]
  refine KF 8 (v := ?va9) rfl (by kernel_rfl) rfl ?ya9 (.inl (by kernel_rfl)) ?ra9
  case ya9 => (intro w; (go_simp; with_reducible rfl))
  simp only [Act.put, lyA, lyB, lyC, lyD, lyE, lyF]
  refine K_end 9 rfl (by kernel_rfl) (by kernel_rfl) (fun K hK => ?_)
  go_simp
  refine hK _ _ ?_
  clear hK K
  try simp only [Act.put, lyA, lyB, lyC, lyD, lyE, lyF]
  refine K_done (by kernel_rfl) (OnlyOn.normal ?_)
  have k9 := k8.set 2 (.slice B1 rs.length d2)
  have hk9 := fun k (hk : k ≠ g6) => ((setCell_at ((wa7).setCell ⟨g6, 1, none⟩ (.slice A1 fs.length d1)) g6 2 (.slice B1 rs.length d2)).2 k hk).trans ((setCell_at (wa7) g6 1 (.slice A1 fs.length d1)).2 k hk)
  have hT9 := hid (oT0.out.keep (fun k hk => hk9 k (by have := (oT0.out.lt hk).1; have := k6.out.lt; omega)))
  have kg9 := hid ((kg4.out.ext xs.out).keep (hk9 g (by have := hg6.out; omega)))
  have bk9 := hid ((H4.out.bk.ext xs.out).keep (hk9 b (by have := hg6.out; omega)))
  have m9 := hid (((m4.out.ext xs.out).set (g := g6) (.inr hg6.out.1) 1 (.slice A1 fs.length d1)).set (g := g6) (.inr hg6.out.1) 2 (.slice B1 rs.length d2))
  obtain ⟨r0, r1, r2⟩ := k9.c3
  clear k7 z1 fz k8 z2 fz2 k9 hk9 xs hcl hca oT0 oA
  generalize ((wa7).setCell ⟨g6, 1, none⟩ (.slice A1 fs.length d1)).setCell ⟨g6, 2, none⟩ (.slice B1 rs.length d2) = w9 at *
  have f0 := kg9.out.free 0
  have f1 := kg9.out.free 1
  have f2 := kg9.out.free 2
  obtain ⟨z0, z1, z2⟩ := kg9.out.c3
  have ka := kg9.out.set3 (.int .i64 p) (.slice A1 fs.length d1) (.slice B1 rs.length d2)
  have hs := set3_at w9 g (.int .i64 p) (.slice A1 fs.length d1) (.slice B1 rs.length d2)
  have ma := m9.out.set3 (g := g) (.inr hgw.out) (.int .i64 p) (.slice A1 fs.length d1) (.slice B1 rs.length d2)
  have hwlo := hid (show w.heap.size ≤ w4.heap.size ∧ g < w4.heap.size ∧ b < w4.heap.size from ⟨m4.out.size, kg4.out.lt, H4.out.bk.lt⟩)
  have Oa := hT9.out.keep (fun k hk => hs.2 k (by have := (hT9.out.lt hk).1; have := hwlo.out; omega))
  have ba := bk9.out.keep (hs.2 b hbg.out)
  have c0 := hid (ba.at (i := 0) rfl)
  have g0 := hid (ba.free 0)
  have hob := hid (OwTt.lo' (Oa.keep (fun k hk => (setCell_at _ b 0 (.int .i32 0)).2 k (by have := (Oa.lt hk).1; have := hwlo.out; omega))) hwlo.out.1)
  have hkb := hid (ka.other (g := b) (Ne.symm hbg.out) 0 (.int .i32 0))
  have hmb := hid (ma.set (g := b) (.inl rfl) 0 (.int .i32 0))
  clear ka hs ma Oa ba hT9 kg9 bk9 m9 H4 kg4 m4 k6
  go_wp2
  refine leaves_cons (f := 57) (args := #[.pointer (some ⟨b, 0, none⟩)]) (by simp) (by simp [go_sem]) ?_
  refine (unlock_deferred muLib ⟨b, 0, none⟩ .returning _ c0.out g0.out).mono ?_
  rintro e u' w'' ⟨rfl, rfl, rfl⟩
  exact ⟨_, results_cell_row rfl _ _ g 25 _ (0, 0) _ rfl hkb.out Tryz.underlying25 rfl (by kernel_rfl), _, _, _, _, rfl, ⟨rr, hob.out⟩, hmb.out⟩
end
open Go.RowKit Go.Shelf Go.MuLone
theorem newM (w : World) : ∃ w' b, Hid (w.alloc (.map #[] 0) = w') ∧ Hid (w.heap.size = b) ∧ Hid (w'.heap.size = b + 1) ∧ IsMap keyI w' b [] ∧ Ext w w' := ⟨_, _, rfl, rfl, (by simp [Hid]), IsMap.new w, Ext.new w _⟩
def newC (p : Int) (t : Tt) (bl : Nat) (c0 c1 c2 c3 : Value) : List Value := [.int .i32 0, .int .u32 0, .int .i64 p, .slice t.A t.n t.c, .slice t.B t.m t.d, .int .i64 0, .int .i64 0, c0, .slice none 0 0,
  .int .i64 0, .int .i64 0, c1, .slice none 0 0, .int .i64 0, .int .i64 0, c2, .slice none 0 0, .int .i64 0, .int .i64 0, c3, .slice none 0 0, .map (some bl)]
theorem deskNew_bad (p : Int) (A : Option Addr) (n c : Nat) (B : Option Addr) (m d : Nat) (fs : List Fd) (rs : List Rc) (w : World) (hf : RdF w A n c fs) (hr : RdR w B m d rs) (hE : ¬ okT p fs rs) :
    Calls Tryz.prog 7 #[tb p A n c B m d] w fun e w' => e = .returned (.tuple #[.pointer none, .int .i64 (vtE p fs rs)]) ∧ Ext w w' := by
  unfold okT at hE
  have hT := T3.new w p A n c B m d
  have hx := hid (Ext.new w (.cells #[.int .i64 p, .slice A n c, .slice B m d] 25))
  have q := hid (Validate_any p A n c B m d fs rs _ (hf.ext hx.out) (hr.ext hx.out))
  unfold tb at q ⊢
  generalize vtE p fs rs = E at *
  have hE2 : (E != 0) = true := by simpa using hE
  go_enter Tryz.func7, Tryz.ntmps7
  go_upto_region 1 with fail
  generalize w.alloc (.cells #[.int .i64 p, .slice A n c, .slice B m d] 25) = w1 at *
  generalize w.heap.size = g at *
  obtain ⟨t0, t1, t2, hb⟩ := hT
  go_wp2_with fail
  refine q.out.mono ?_
  rintro e w2 ⟨rfl, hx2⟩
  replace hx := hid (hx.out.trans hx2)
  clear q hx2 t0 t1 t2
  go_wp2
  exact bodyPost_ret (v := .tuple #[.pointer none, .int .i64 E]) (by simp [results, Tryz.results7, go_sem]) rfl ⟨rfl, hx.out⟩
theorem deskNew_any (p : Int) (A : Option Addr) (n c : Nat) (B : Option Addr) (m d : Nat) (fs : List Fd) (rs : List Rc) (w : World) (hf : RdF w A n c fs) (hr : RdR w B m d rs) (hE : okT p fs rs) :
    Calls Tryz.prog 7 #[tb p A n c B m d] w fun e w' => ∃ b M, e = .returned (.tuple #[.pointer (some ⟨b, 0, none⟩), .int .i64 0]) ∧ DeskI w' w.heap.size b 0 p fs rs rs [] 0 0 M ∧ M.ch = [] ∧ Ext w w' := by
  have hl := hE.len
  have hW := hid hE.wid
  have hl1 := hf.len
  have hl2 := hr.len
  subst hl1
  subst hl2
  obtain ⟨w1, g, e1, h1, s1, kg, x1⟩ := newB w [.int .i64 p, .slice A fs.length c, .slice B rs.length d] 25
  have q := hid (Validate_any p A fs.length c B rs.length d fs rs w1 (hf.ext x1) (hr.ext x1))
  unfold okT at hE
  rw [hE] at q
  have hgw := hid h1.out
  have x1 := hid x1
  have hf := hid hf
  have hr := hid hr
  obtain ⟨t0, t1, t2⟩ := kg.c3
  have kg := hid kg
  clear s1
  unfold tb at q ⊢
  go_enter Tryz.func7, Tryz.ntmps7
  go_upto_region 1 with fail
  simp only [e1.out, h1.out]
  clear e1 h1
  go_wp2_with fail
  refine q.out.mono ?_
  rintro e w4 ⟨rfl, hx2⟩
  have k6 := hid (kg.out.ext hx2)
  have x4 := hid (x1.out.trans hx2)
  clear q hx2 t0 t1 t2 kg x1
  go_upto_region 4 with fail
  have hcl := hid (fun w' (hx : Ext w4 w') => clone30 A fs.length c (fds fs) w' (Rd.ext hf.out (x4.out.trans hx)) (fds_one fs) (by omega))
  have hca := hid (fun w' (hx : Ext w4 w') => copiedAll_any B rs.length d fs.length rs w' (hr.out.ext (x4.out.trans hx)) hl.1 (by omega) hW.out (by omega))
  have xa := (Ext.refl w4).drew_right
  refine region_K (fun w' => Ext w4 w') 7 (by kernel_rfl) ?_
  generalize w4.drew = da at xa ⊢
  refine KF 0 (v := ?va1) rfl (by kernel_rfl) rfl ?ya1 (.inr xa) ?ra1
  case ya1 => (intro w; (go_simp; with_reducible rfl))
  simp only [Act.put, lyA, lyB, lyC, lyD, lyE, lyF]
  refine KT 1 (v := ?va2) rfl (by kernel_rfl) rfl ?ya2 xa ?ra2
  case ya2 => (intro w hw; obtain ⟨q0, q1, q2⟩ := (k6.out.ext hw).c3; (go_simp; with_reducible rfl))
  simp only [Act.put, lyA, lyB, lyC, lyD, lyE, lyF]
  refine KF 3 (v := ?va3) rfl (by kernel_rfl) rfl ?ya3 (.inr xa) ?ra3
  case ya3 => (intro w; (go_simp; with_reducible rfl))
  simp only [Act.put, lyA, lyB, lyC, lyD, lyE, lyF]
  refine KT 4 (v := ?va4) rfl (by kernel_rfl) rfl ?ya4 xa ?ra4
  case ya4 => (intro w hw; obtain ⟨q0, q1, q2⟩ := (k6.out.ext hw).c3; (go_simp; with_reducible rfl))
  simp only [Act.put, lyA, lyB, lyC, lyD, lyE, lyF]
  refine K_one 2 rfl (by kernel_rfl) (fun K hK => ?_)
  go_simp
  refine (hcl.out _ xa).mono ?_
  rintro e wa5 ⟨A1, d1, rfl, oA0, hxa5⟩
  have hbase := hid (xa).size
  have oA : OwA wa5 w4.heap.size A1 fs.length d1 fs := own_baseK oA0 hbase.out
  clear oA0
  refine hK _ _ ⟨fun _ _ => ((xa).trans hxa5), ?_⟩
  clear hK K
  try simp only [Act.put, lyA, lyB, lyC, lyD, lyE, lyF]
  have xa5 := ((xa).trans hxa5)
  refine KF 6 (v := ?va6) rfl (by kernel_rfl) rfl ?ya6 (.inr xa5) ?ra6
  case ya6 => (intro w; (go_simp; with_reducible rfl))
  simp only [Act.put, lyA, lyB, lyC, lyD, lyE, lyF]
  refine K_one 5 rfl (by kernel_rfl) (fun K hK => ?_)
  go_simp
  refine (hca.out _ xa5).mono ?_
  rintro e wa7 ⟨B1, d2, rr, rfl, oR, orl, hxa7⟩
  have hlt2 := hid (fun g (hg : (Value.slice A1 fs.length d1).ownBlock = some g) => (oA.lt g hg).2)
  have hlo2 := hid (xa5).size
  have oT0 := hid (OwTt.mk2 (oA.ext hxa7) oR orl rfl rfl hlt2.out hlo2.out)
  clear hlt2 hlo2 oR orl
  refine hK _ _ ⟨fun _ _ => ((xa5).trans hxa7), ?_⟩
  clear hK K
  try simp only [Act.put, lyA, lyB, lyC, lyD, lyE, lyF]
  replace oA := oA.ext hxa7
  have xa7 := ((xa5).trans hxa7)
  refine K_end 7 rfl (by kernel_rfl) (by kernel_rfl) (fun K hK => ?_)
  have xs := hid (xa7)
  have k7 := k6.out.ext xs.out
  have z1 := k7.at (i := 1) rfl
  have fz := k7.free 1
  go_simp
  refine hK _ _ ?_
  have k8 := k7.set 1 (.slice A1 fs.length d1)
  have z2 := k8.at (i := 2) rfl
  have fz2 := k8.free 2
  clear hK K
  try simp only [Act.put, lyA, lyB, lyC, lyD, lyE, lyF]
  refine KF 8 (v := ?va9) rfl (by kernel_rfl) rfl ?ya9 (.inl (by kernel_rfl)) ?ra9
  case ya9 => (intro w; (go_simp; with_reducible rfl))
  simp only [Act.put, lyA, lyB, lyC, lyD, lyE, lyF]
  refine K_end 9 rfl (by kernel_rfl) (by kernel_rfl) (fun K hK => ?_)
  go_simp
  refine hK _ _ ?_
  clear hK K
  try simp only [Act.put, lyA, lyB, lyC, lyD, lyE, lyF]
  refine K_done (by kernel_rfl) (OnlyOn.normal ?_)
  have k9 := k8.set 2 (.slice B1 rs.length d2)
  have hk9 := fun k (hk : k ≠ g) => ((setCell_at ((wa7).setCell ⟨g, 1, none⟩ (.slice A1 fs.length d1)) g 2 (.slice B1 rs.length d2)).2 k hk).trans ((setCell_at (wa7) g 1 (.slice A1 fs.length d1)).2 k hk)
  have hT9 := hid (oT0.out.keep (fun k hk => hk9 k (by have := (oT0.out.lt hk).1; have := k6.out.lt; omega)))
  have hwg : w.heap.size ≤ g := by have := hgw.out; omega
  have x9 := hid (((x4.out.trans xs.out).set (p := ⟨g, 1, none⟩) hwg (.slice A1 fs.length d1)).set (p := ⟨g, 2, none⟩) hwg (.slice B1 rs.length d2))
  have hw4 := hid (show w.heap.size ≤ w4.heap.size from x4.out.size)
  obtain ⟨r0, r1, r2⟩ := k9.c3
  clear k7 z1 fz k8 z2 fz2 k9 hk9 xs hcl hca oT0 oA hwg
  generalize ((wa7).setCell ⟨g, 1, none⟩ (.slice A1 fs.length d1)).setCell ⟨g, 2, none⟩ (.slice B1 rs.length d2) = w9 at *
  obtain ⟨t, et⟩ : ∃ t : Tt, t = ⟨A1, fs.length, d1, B1, rs.length, d2, rr⟩ := ⟨_, rfl⟩
  obtain ⟨wm, bl, em, hm, sm, im, xm⟩ := newM w9
  obtain ⟨wb, b, eb, hb, sb, kb, xb⟩ := newB wm (newC p t bl (.map none) (.map none) (.map none) (.map none)) 93
  have hbl : bl < b := by have := hm.out; have := hb.out; have := sm.out; omega
  have hb9 : w9.heap.size ≤ bl := by have := hm.out; omega
  have im := hid (im.ext xb)
  have hT := hid ((show OwTt w9 w4.heap.size fs.length fs rs t from by rw [et]; exact hT9.out).ext (xm.trans xb))
  have hTn := hid (fun k (hk : t.F k) => (show k < w9.heap.size from by rw [et] at hk; exact (hT9.out.lt hk).2))
  have x10 := hid (x9.out.trans (xm.trans xb))
  have hbe := hid (show wm.heap.size = b from hb.out)
  have k10 := hid kb
  have ee : t.A = A1 ∧ t.n = fs.length ∧ t.c = d1 ∧ t.B = B1 ∧ t.m = rs.length ∧ t.d = d2 := by rw [et]; exact ⟨rfl, rfl, rfl, rfl, rfl, rfl⟩
  obtain ⟨eA, en, ec, eB, em2, ed⟩ := ee
  have eb := eb.out
  unfold newC at eb
  rw [eA, en, ec, eB, em2, ed] at eb
  have em := em.out
  have hm := hm.out
  have hb := hb.out
  have sm := sm.out
  have hx9s := hid x9.out.size
  clear kb xm xb hT9 x9 et sb
  have hmm := @run_makeMap Tryz.prog
  go_upto_region 6 with fail
  try simp only [em, hm, eb, hb]
  clear em hm eb
  have hw9 := hid (show w.heap.size ≤ w9.heap.size from hx9s.out)
  generalize w9.heap.size = z9 at *
  have hbl := hid hbl
  have hb9 := hid hb9
  have hzw := hid (show w.heap.size ≤ z9 from by have := hw9.out; omega)
  clear hb r0 r1 r2 sm
  have hbb := hid (show b < wb.heap.size from k10.out.lt)
  go_wp2_with fail
  go_loopw [6, 24] (fun u v wr => ∃ (k : Nat) (c0 c1 c2 c3 : Value), k ≤ 4 ∧ v = .int .i64 k ∧ Hid (Bk wr b (newC p t bl c0 c1 c2 c3) 93) ∧ Hid (∀ k, k < wb.heap.size → k ≠ b → wr.heap[k]? = wb.heap[k]?) ∧ Hid (Ext w wr) ∧ Hid (wb.heap.size ≤ wr.heap.size) ∧ Hid (0 < k → ∃ m0, c0 = .map (some m0) ∧ IsMap keyI wr m0 [] ∧ b < m0) ∧ Hid ((1 < k → ∃ m1, c1 = .map (some m1)) ∧ (2 < k → ∃ m2, c2 = .map (some m2)) ∧ (3 < k → ∃ m3, c3 = .map (some m3)))) (fun _ v _ => 4 - (intOf v).toNat)
  case atStart => exact ⟨0, _, _, _, _, by omega, rfl, k10, fun _ _ _ => rfl, x10, Nat.le_refl _, fun h => absurd h (by omega), fun h => absurd h (by omega), fun h => absurd h (by omega), fun h => absurd h (by omega)⟩
  case round =>
    obtain ⟨k, c0, c1, c2, c3, hk, rfl, kb, hkp, hx, hsz, hm0, hms⟩ := hrel
    clear k10 x10
    have hbw := hid (show w.heap.size ≤ b from by have := hbl.out; have := hb9.out; have := hzw.out; omega)
    obtain rfl | rfl | rfl | rfl | rfl : k = 0 ∨ k = 1 ∨ k = 2 ∨ k = 3 ∨ k = 4 := by omega
    · obtain ⟨w5, m, e5, h5, s5, im5, x5⟩ := newM wr
      have hh5 := hid h5.out
      have z : (wr.alloc (.map #[] 0)).cell? ⟨b, 7, none⟩ = some c0 := by rw [e5.out]; exact (kb.out.ext x5).at rfl
      have fz : (wr.alloc (.map #[] 0)).frozen? ⟨b, 7, none⟩ = false := by rw [e5.out]; exact (kb.out.ext x5).free 7
      have k5 := hid ((kb.out.ext x5).set 7 (.map (some m)))
      go_wp2
      rw [e5.out, h5.out]
      go_roundw
      case rel => exact ⟨1, (.map (some m)), c1, c2, c3, by omega, by go_num, k5.out, fun q h1 h2 => ((setCell_at w5 b 7 _).2 q h2).trans ((x5.block (Nat.lt_of_lt_of_le h1 hsz.out)).trans (hkp.out q h1 h2)), (hx.out.trans x5).set (p := ⟨b, 7, none⟩) hbw.out _, by rw [(setCell_at _ _ _ _).1]; exact Nat.le_trans hsz.out x5.size, fun _ => ⟨m, rfl, im5.keep ((setCell_at _ b 7 _).2 m (by have := kb.out.lt; have := hh5.out; omega)), by have := kb.out.lt; have := hh5.out; omega⟩, fun h => absurd h (by omega), fun h => absurd h (by omega), fun h => absurd h (by omega)⟩
      case measure => simp [intOf]
    · obtain ⟨w5, m, e5, h5, s5, im5, x5⟩ := newM wr
      have hh5 := hid h5.out
      have z : (wr.alloc (.map #[] 0)).cell? ⟨b, 11, none⟩ = some c1 := by rw [e5.out]; exact (kb.out.ext x5).at rfl
      have fz : (wr.alloc (.map #[] 0)).frozen? ⟨b, 11, none⟩ = false := by rw [e5.out]; exact (kb.out.ext x5).free 11
      have k5 := hid ((kb.out.ext x5).set 11 (.map (some m)))
      go_wp2
      rw [e5.out, h5.out]
      go_roundw
      case rel => exact ⟨2, c0, (.map (some m)), c2, c3, by omega, by go_num, k5.out, fun q h1 h2 => ((setCell_at w5 b 11 _).2 q h2).trans ((x5.block (Nat.lt_of_lt_of_le h1 hsz.out)).trans (hkp.out q h1 h2)), (hx.out.trans x5).set (p := ⟨b, 11, none⟩) hbw.out _, by rw [(setCell_at _ _ _ _).1]; exact Nat.le_trans hsz.out x5.size, fun _ => by obtain ⟨m0, q1, q2, q3⟩ := hm0.out (by omega); exact ⟨m0, q1, (q2.ext x5).keep ((setCell_at _ b 11 _).2 m0 (by omega)), q3⟩, fun _ => ⟨m, rfl⟩, fun h => absurd h (by omega), fun h => absurd h (by omega)⟩
      case measure => simp [intOf]
    · obtain ⟨w5, m, e5, h5, s5, im5, x5⟩ := newM wr
      have hh5 := hid h5.out
      have z : (wr.alloc (.map #[] 0)).cell? ⟨b, 15, none⟩ = some c2 := by rw [e5.out]; exact (kb.out.ext x5).at rfl
      have fz : (wr.alloc (.map #[] 0)).frozen? ⟨b, 15, none⟩ = false := by rw [e5.out]; exact (kb.out.ext x5).free 15
      have k5 := hid ((kb.out.ext x5).set 15 (.map (some m)))
      go_wp2
      rw [e5.out, h5.out]
      go_roundw
      case rel => exact ⟨3, c0, c1, (.map (some m)), c3, by omega, by go_num, k5.out, fun q h1 h2 => ((setCell_at w5 b 15 _).2 q h2).trans ((x5.block (Nat.lt_of_lt_of_le h1 hsz.out)).trans (hkp.out q h1 h2)), (hx.out.trans x5).set (p := ⟨b, 15, none⟩) hbw.out _, by rw [(setCell_at _ _ _ _).1]; exact Nat.le_trans hsz.out x5.size, fun _ => by obtain ⟨m0, q1, q2, q3⟩ := hm0.out (by omega); exact ⟨m0, q1, (q2.ext x5).keep ((setCell_at _ b 15 _).2 m0 (by omega)), q3⟩, fun _ => hms.out.1 (by omega), fun _ => ⟨m, rfl⟩, fun h => absurd h (by omega)⟩
      case measure => simp [intOf]
    · obtain ⟨w5, m, e5, h5, s5, im5, x5⟩ := newM wr
      have hh5 := hid h5.out
      have z : (wr.alloc (.map #[] 0)).cell? ⟨b, 19, none⟩ = some c3 := by rw [e5.out]; exact (kb.out.ext x5).at rfl
      have fz : (wr.alloc (.map #[] 0)).frozen? ⟨b, 19, none⟩ = false := by rw [e5.out]; exact (kb.out.ext x5).free 19
      have k5 := hid ((kb.out.ext x5).set 19 (.map (some m)))
      go_wp2
      rw [e5.out, h5.out]
      go_roundw
      case rel => exact ⟨4, c0, c1, c2, (.map (some m)), by omega, by go_num, k5.out, fun q h1 h2 => ((setCell_at w5 b 19 _).2 q h2).trans ((x5.block (Nat.lt_of_lt_of_le h1 hsz.out)).trans (hkp.out q h1 h2)), (hx.out.trans x5).set (p := ⟨b, 19, none⟩) hbw.out _, by rw [(setCell_at _ _ _ _).1]; exact Nat.le_trans hsz.out x5.size, fun _ => by obtain ⟨m0, q1, q2, q3⟩ := hm0.out (by omega); exact ⟨m0, q1, (q2.ext x5).keep ((setCell_at _ b 19 _).2 m0 (by omega)), q3⟩, fun _ => hms.out.1 (by omega), fun _ => hms.out.2.1 (by omega), fun _ => ⟨m, rfl⟩⟩
      case measure => simp [intOf]
    · obtain ⟨m0, rfl, q2, q3⟩ := hm0.out (by omega)
      obtain ⟨m1, rfl⟩ := hms.out.1 (by omega)
      obtain ⟨m2, rfl⟩ := hms.out.2.1 (by omega)
      obtain ⟨m3, rfl⟩ := hms.out.2.2 (by omega)
      have hfin : Hid (∃ M, DeskI wr w.heap.size b 0 p fs rs rs [] 0 0 M ∧ M.ch = []) := by
        have h1 := hbl.out
        have h2 := hb9.out
        have hT2 := hT.out.keep (w' := wr) (fun k hk => hkp.out k (hT.out.lt hk).2 (fun e => by have := hTn.out k hk; omega))
        have hI := DeskI.none (w := wr) (lo := w.heap.size) (b := b) (s := 0) (p := p) (fs := fs) (rs := rs) (mode := 0) (at_ := 0) (M := { t := t, bm := m0, ch := [], pA := none, pn := 0, pc := 0, pr := [], m1 := m1, m2 := m2, m3 := m3, bl := bl, lk := [], τ := fun _ => .no }) (u := t) (bm := m0) kb.out (hT2.lo' hw4.out) q2 (im.out.keep (hkp.out bl (by have := hbb.out; omega) (by omega))) (by omega) (by simp only; omega) (by simp only; omega)
          (fun e => by have := hTn.out _ e; omega) (fun e => by have := hTn.out _ e; omega) (fun e => by have := hTn.out _ e; simp only at this; omega) ⟨hbw.out, by have := hbw.out; omega, by have := hzw.out; simp only; omega⟩
        exact hid ⟨_, hI, rfl⟩
      clear kb q2 q3 hm0 hms
      go_wp2
      obtain ⟨M, hM, hc⟩ := hfin.out
      exact bodyPost_ret (v := .tuple #[.pointer (some ⟨b, 0, none⟩), .int .i64 0]) (by simp [results, Tryz.results7, go_sem]) rfl ⟨b, M, rfl, hM, hc, hx.out⟩
open Go.RowKit Go.Shelf Go.MuLone
section
variable {w w1 w' : World} {lo b n0 : Nat} {s s' p : Int} {fs : List Fd} {vw : List Rc} {mode at_ at' : Int} {M M1 : Dm}
theorem AltTo.seen {rs vb ra : List Rc} {x : Rc} {i : Nat} (h : AltTo w w' lo b s p fs rs vb ra mode at_ x i M) (hvw : vb ++ ra = vw) (hi : i < rs.length) (hlen : vb.length = rs.length) (hn : n0 ≤ rs.length) (hat : -(ra.length : Int) ≤ at_) (hra : mode = 0 → ra = []) :
    DeskW w w' lo b s p fs (vw.set i x) n0 mode at_ M := by
  obtain ⟨rs', M', h1, h2, h3, h4, h5⟩ := h
  refine ⟨M', ⟨rs', _, ra, h1, ?_, by omega, hat, fun e => ⟨h3 e, hra e⟩⟩, h4, h5⟩
  rw [← hvw, List.set_append_left _ _ (by omega)]
theorem vw_at {vb ra : List Rc} {i : Nat} (hvw : vb ++ ra = vw) (hi : i < vb.length) : rth vb i = rth vw i := by rw [← hvw, rth_app_lt hi]
theorem deskMark_any (i : Nat) (q : Bool) (w : World) (H : DeskV w lo b 0 p fs vw n0 mode ((i : Int) + 1) M) (hl : vw.length ≤ 300) (hf : 0 < fs.length ∧ fs.length ≤ 16) (hi : i < n0) : Calls Tryz.prog 47 #[.pointer (some ⟨b, 0, none⟩), .int .i64 0, .bool q] w fun e w' =>
    e = .returned (.int .i64 0) ∧ DeskW w w' lo b 0 p fs (markAt vw i q) n0 mode ((i : Int) + 1) M := by
  obtain ⟨w1, g, e1, h1, s1, k1, x1⟩ := newB w [.bool q] 4
  have H1 := H.ext x1
  have hq := hid (enter_any b w1 H1.c0.1 H1.c0.2)
  have H2 := hid (H1.lock 1)
  have m2 := hid ((Mv.of (F := DeskF M) x1).set (.inl H.fb) 0 (.int .i32 1))
  have hfb := hid H.fb
  have hg := hid (show ¬ DeskF M g from fun e => by have := (H.lt e).2; have := h1.out; omega)
  have k2 := hid (k1.other (g := b) (fun e => hg.out (e ▸ hfb.out)) 0 (.int .i32 1))
  clear H H1 k1 x1 s1
  go_enter_defers Tryz.func47, Tryz.ntmps47
  go_upto_region 1 with fail
  simp only [e1.out, h1.out]
  clear e1
  go_wp2_with fail
  refine hq.out.mono ?_
  rintro e w2 ⟨rfl, hx2⟩
  have H3 := hid (H2.out.ext hx2)
  have m3 := hid (m2.out.ext hx2)
  have k3 := hid (k2.out.ext hx2)
  clear hq hx2 H2 m2 k2
  obtain ⟨c6, z6⟩ := H3.out.c6
  obtain ⟨rs, vb, ra, d1, d2, d3, d4, d5⟩ := H3.out
  have hlen : rs.length + ra.length ≤ 300 := by rw [← d2, List.length_append, d1.len] at hl; exact hl
  have hal := hid (alterG_any i g q w2 d1 (by omega) (fun e => (d5 e).1) (by omega) hf k3.out hg.out)
  have hfin := hid (fun w' (h : AltTo w2 w' lo b 1 p fs rs vb ra mode ((i : Int) + 1) ⟨q, (rth vb i).v⟩ i M) => h.seen d2 (by omega) d1.len d3 d4 (fun e => (d5 e).2))
  rw [vw_at d2 (by rw [d1.len]; omega)] at hfin hal
  have i0 : ((i : Int) + 1 == 0) = false := by simp; omega
  clear d1 d2 d3 d4 d5 hlen H3 k3
  go_wp2_with fail
  refine hal.out.mono ?_
  rintro e w3 ⟨rfl, hA⟩
  have hW := hid (DeskW.trans m3.out (fun k hk => .inl hk) (hfin.out w3 hA))
  have c0 := hid hW.out.c0.1
  have g0 := hid hW.out.c0.2
  have hres := hid (hW.out.unlock hfb.out)
  clear hal hfin hA hW m3 c6 z6
  go_wp2
  refine leaves_cons (f := 57) (args := #[.pointer (some ⟨b, 0, none⟩)]) (by simp) (by simp [go_sem]) ?_
  refine (unlock_deferred muLib ⟨b, 0, none⟩ .returning _ c0.out g0.out).mono ?_
  rintro e u' w'' ⟨rfl, rfl, rfl⟩
  exact ⟨_, results_tmp rfl _ _ _, rfl, hres.out⟩
end
open Go.RowKit Go.Shelf Go.MuLone
def setE (p : Int) (fs : List Fd) (s : ByteArray) (y : Vl) : Int := if ixN fs s < 0 then 4 else (fitR (fth fs (ixN fs s).toNat) p y).2
def setR (p : Int) (fs : List Fd) (rs : List Rc) (i : Nat) (s : ByteArray) (y : Vl) : List Rc := if ixN fs s < 0 then rs else if (fitR (fth fs (ixN fs s).toNat) p y).2 ≠ 0 then rs else setAt rs i (ixN fs s).toNat (fitR (fth fs (ixN fs s).toNat) p y).1
section
variable {w w1 w' : World} {lo b n0 : Nat} {s s' p : Int} {fs : List Fd} {vw : List Rc} {mode at_ at' : Int} {M M1 : Dm}
theorem DeskV.rd (h : DeskV w lo b s p fs vw n0 mode at_ M) : RdF w M.t.A fs.length M.t.c fs ∧ w.cell? ⟨b, 2, none⟩ = some (.int .i64 p) ∧ w.cell? ⟨b, 3, none⟩ = some (.slice M.t.A fs.length M.t.c) := by
  obtain ⟨rs, vb, ra, h1, h2⟩ := h
  refine ⟨?_, h1.c.2.1, h1.c.2.2.1⟩
  have := h1.ow.rf
  rwa [h1.ow.2.2.2.2.1] at this
theorem deskSet_any (i : Nat) (nm : ByteArray) (y : Vl) (w : World) (H : DeskV w lo b 0 p fs vw n0 mode ((i : Int) + 1) M) (hl : vw.length ≤ 300) (hf : 0 < fs.length ∧ fs.length ≤ 16) (hi : i < n0) : Calls Tryz.prog 27 #[.pointer (some ⟨b, 0, none⟩), .int .i64 0, .string nm, vl y] w fun e w' =>
    e = .returned (.int .i64 (setE p fs nm y)) ∧ DeskW w w' lo b 0 p fs (setR p fs vw i nm y) n0 mode ((i : Int) + 1) M := by
  obtain ⟨w1, g, e1, h1, s1, k1, x1⟩ := newB w [.int .i64 y.k, .int .i64 y.n, .string y.s] 66
  have H1 := H.ext x1
  have hq := hid (enter_any b w1 H1.c0.1 H1.c0.2)
  have H2 := hid (H1.lock 1)
  have m2 := hid ((Mv.of (F := DeskF M) x1).set (.inl H.fb) 0 (.int .i32 1))
  have hfb := hid H.fb
  have hg := hid (show ¬ DeskF M g from fun e => by have := (H.lt e).2; have := h1.out; omega)
  have k2 := hid (k1.other (g := b) (fun e => hg.out (e ▸ hfb.out)) 0 (.int .i32 1))
  have hwg := hid (show w.heap.size ≤ g from by have := h1.out; omega)
  have hwb := hid (show ∀ k, DeskF M k → k < w.heap.size from fun k hk => (H.lt hk).2)
  clear H H1 k1 x1 s1
  unfold vl
  go_enter_defers Tryz.func27, Tryz.ntmps27
  go_upto_region 1 with fail
  simp only [e1.out, h1.out]
  clear e1 h1
  go_wp2_with fail
  refine hq.out.mono ?_
  rintro e w2 ⟨rfl, hx2⟩
  have H3 := hid (H2.out.ext hx2)
  have m3 := hid (m2.out.ext hx2)
  have k3 := hid (k2.out.ext hx2)
  clear hq hx2 H2 m2 k2
  obtain ⟨c6, z6⟩ := H3.out.c6
  obtain ⟨hrd, c2, c3⟩ := H3.out.rd
  have i0 : ((i : Int) + 1 == 0) = false := by simp; omega
  have hix := hid (Index_any M.t.A fs.length M.t.c fs nm w2 hrd)
  clear hrd
  go_wp2_with fail
  refine hix.out.mono ?_
  rintro e w3 ⟨rfl, hx3⟩
  have H4 := hid (H3.out.ext hx3)
  have m4 := hid (m3.out.ext hx3)
  have k4 := hid (k3.out.ext hx3)
  clear hix hx3 H3 m3 k3 c6 z6 c2 c3
  obtain ⟨w5, g12, e5, h5, s5, k12, x5⟩ := newB w3 [.int .i64 (max (ixN fs nm) 0)] 3
  have H5 := hid (H4.out.ext x5)
  have m5 := hid (m4.out.ext x5)
  have k5 := hid (k4.out.ext x5)
  have hg12 := hid (show w.heap.size ≤ g12 ∧ g < g12 from by have := h5.out; have := m4.out.size; have := k4.out.lt; omega)
  clear H4 m4 k4 x5
  have k12 := hid k12
  go_upto_region 8 with fail
  simp only [e5.out, h5.out]
  clear e5 h5 s5
  by_cases hn : ixN fs nm < 0
  · have hd : decide (0 ≤ ixN fs nm) = false := by simp; omega
    have hE := hid (show setE p fs nm y = 4 from if_pos hn)
    have hR := hid (show setR p fs vw i nm y = vw from if_pos hn)
    have hW := hid (DeskW.of H5.out m5.out)
    have c0 := hid hW.out.c0.1
    have g0 := hid hW.out.c0.2
    have hres := hid (hW.out.unlock hfb.out)
    rw [← hR.out] at hres
    clear hW H5 m5 k5 k12 hR hn
    rw [hd]
    go_wp2
    refine leaves_cons (f := 57) (args := #[.pointer (some ⟨b, 0, none⟩)]) (by simp) (by simp [go_sem]) ?_
    refine (unlock_deferred muLib ⟨b, 0, none⟩ .returning _ c0.out g0.out).mono ?_
    rintro e u' w'' ⟨rfl, rfl, rfl⟩
    exact ⟨_, results_tmp rfl _ _ _, by rw [hE.out]; rfl, hres.out⟩
  · obtain ⟨k, hk, hkl⟩ : ∃ k : Nat, ixN fs nm = k ∧ k < fs.length := ⟨_, (by omega : _ = (((ixN fs nm).toNat : Nat) : Int)), ixN_lt hn⟩
    have hd : decide (0 ≤ ixN fs nm) = true := by simp; omega
    have hmx : max (ixN fs nm) 0 = (k : Int) := by omega
    rw [hmx] at k12
    have hE := hid (show setE p fs nm y = (fitR (fth fs k) p y).2 from by unfold setE; rw [if_neg hn, hk]; rfl)
    have hR := hid (show setR p fs vw i nm y = if (fitR (fth fs k) p y).2 ≠ 0 then vw else setAt vw i k (fitR (fth fs k) p y).1 from by unfold setR; rw [if_neg hn, hk]; rfl)
    have hkl := hid hkl
    have ik : 0 ≤ (k : Int) ∧ (k : Int) < fs.length := by have := hkl.out; omega
    obtain ⟨gA, eA, -⟩ : ∃ g, M.t.A = some g ∧ True := by
      obtain ⟨ad, e, -⟩ := H5.out.rd.1.at_ hkl.out
      exact ⟨ad, e, trivial⟩
    clear hn hk hmx
    rw [hd]
    go_upto_region 10 with fail
    have hft := hid (fun w' => Fit_any (fth fs k) p y w')
    unfold vl at hft
    have xa := (Ext.refl w5).drew_right
    refine region_K (fun w' => Ext w5 w') 18 (by kernel_rfl) ?_
    generalize w5.drew = da at xa ⊢
    refine KF 0 (v := ?va1) rfl (by kernel_rfl) rfl ?ya1 (.inr xa) ?ra1
    case ya1 => (intro w; (go_simp; with_reducible rfl))
    simp only [Act.put, lyA, lyB, lyC, lyD, lyE, lyF]
    refine KF 1 (v := ?va2) rfl (by kernel_rfl) rfl ?ya2 (.inr xa) ?ra2
    case ya2 => (intro w; (go_simp; with_reducible rfl))
    simp only [Act.put, lyA, lyB, lyC, lyD, lyE, lyF]
    refine KF 2 (v := ?va3) rfl (by kernel_rfl) rfl ?ya3 (.inr xa) ?ra3
    case ya3 => (intro w; (go_simp; with_reducible rfl))
    simp only [Act.put, lyA, lyB, lyC, lyD, lyE, lyF]
    refine KF 3 (v := ?va4) rfl (by kernel_rfl) rfl ?ya4 (.inr xa) ?ra4
    case ya4 => (intro w; (go_simp; with_reducible rfl))
    simp only [Act.put, lyA, lyB, lyC, lyD, lyE, lyF]
    refine KT 4 (v := ?va5) rfl (by kernel_rfl) rfl ?ya5 xa ?ra5
    case ya5 => (intro w hw; obtain ⟨hrd, c2, c3⟩ := (H5.out.ext hw).rd; rw [eA] at c3; obtain ⟨_, eA2, x0, x1, x2, x3⟩ := hrd.at_ hkl.out; rw [eA] at eA2; injection eA2 with eA2; subst eA2; obtain ⟨q0, q1, q2⟩ := (k5.out.ext hw).c3; have q12 := (k12.out.ext hw).c1; (go_simp; with_reducible rfl))
    simp only [Act.put, lyA, lyB, lyC, lyD, lyE, lyF]
    refine KT 5 (v := ?va6) rfl (by kernel_rfl) rfl ?ya6 xa ?ra6
    case ya6 => (intro w hw; obtain ⟨hrd, c2, c3⟩ := (H5.out.ext hw).rd; rw [eA] at c3; obtain ⟨_, eA2, x0, x1, x2, x3⟩ := hrd.at_ hkl.out; rw [eA] at eA2; injection eA2 with eA2; subst eA2; obtain ⟨q0, q1, q2⟩ := (k5.out.ext hw).c3; have q12 := (k12.out.ext hw).c1; (go_simp; with_reducible rfl))
    simp only [Act.put, lyA, lyB, lyC, lyD, lyE, lyF]
    refine KF 6 (v := ?va7) rfl (by kernel_rfl) rfl ?ya7 (.inr xa) ?ra7
    case ya7 => (intro w; (go_simp; with_reducible rfl))
    simp only [Act.put, lyA, lyB, lyC, lyD, lyE, lyF]
    refine KT 7 (v := ?va8) rfl (by kernel_rfl) rfl ?ya8 xa ?ra8
    case ya8 => (intro w hw; obtain ⟨hrd, c2, c3⟩ := (H5.out.ext hw).rd; rw [eA] at c3; obtain ⟨_, eA2, x0, x1, x2, x3⟩ := hrd.at_ hkl.out; rw [eA] at eA2; injection eA2 with eA2; subst eA2; obtain ⟨q0, q1, q2⟩ := (k5.out.ext hw).c3; have q12 := (k12.out.ext hw).c1; (go_simp; with_reducible rfl))
    simp only [Act.put, lyA, lyB, lyC, lyD, lyE, lyF]
    refine KF 8 (v := ?va9) rfl (by kernel_rfl) rfl ?ya9 (.inr xa) ?ra9
    case ya9 => (intro w; (go_simp; with_reducible rfl))
    simp only [Act.put, lyA, lyB, lyC, lyD, lyE, lyF]
    refine KF 9 (v := ?va10) rfl (by kernel_rfl) rfl ?ya10 (.inr xa) ?ra10
    case ya10 => (intro w; (go_simp; with_reducible rfl))
    simp only [Act.put, lyA, lyB, lyC, lyD, lyE, lyF]
    refine KF 10 (v := ?va11) rfl (by kernel_rfl) rfl ?ya11 (.inr xa) ?ra11
    case ya11 => (intro w; (go_simp; with_reducible rfl))
    simp only [Act.put, lyA, lyB, lyC, lyD, lyE, lyF]
    refine KF 11 (v := ?va12) rfl (by kernel_rfl) rfl ?ya12 (.inr xa) ?ra12
    case ya12 => (intro w; (go_simp; with_reducible rfl))
    simp only [Act.put, lyA, lyB, lyC, lyD, lyE, lyF]
    refine KT 12 (v := ?va13) rfl (by kernel_rfl) rfl ?ya13 xa ?ra13
    case ya13 => (intro w hw; obtain ⟨hrd, c2, c3⟩ := (H5.out.ext hw).rd; rw [eA] at c3; obtain ⟨_, eA2, x0, x1, x2, x3⟩ := hrd.at_ hkl.out; rw [eA] at eA2; injection eA2 with eA2; subst eA2; obtain ⟨q0, q1, q2⟩ := (k5.out.ext hw).c3; have q12 := (k12.out.ext hw).c1; (go_simp; with_reducible rfl))
    simp only [Act.put, lyA, lyB, lyC, lyD, lyE, lyF]
    refine KT 13 (v := ?va14) rfl (by kernel_rfl) rfl ?ya14 xa ?ra14
    case ya14 => (intro w hw; obtain ⟨hrd, c2, c3⟩ := (H5.out.ext hw).rd; rw [eA] at c3; obtain ⟨_, eA2, x0, x1, x2, x3⟩ := hrd.at_ hkl.out; rw [eA] at eA2; injection eA2 with eA2; subst eA2; obtain ⟨q0, q1, q2⟩ := (k5.out.ext hw).c3; have q12 := (k12.out.ext hw).c1; (go_simp; with_reducible rfl))
    simp only [Act.put, lyA, lyB, lyC, lyD, lyE, lyF]
    refine K_one 14 rfl (by kernel_rfl) (fun K hK => ?_)
    go_simp
    refine (hft.out _).mono ?_
    rintro e9 wa15 ⟨rfl, hxa15⟩
    unfold vl
    refine hK _ _ ⟨fun _ _ => ((xa).trans hxa15), ?_⟩
    clear hK K
    try simp only [Act.put, lyA, lyB, lyC, lyD, lyE, lyF]
    have xa15 := ((xa).trans hxa15)
    refine KF 15 (v := ?va16) rfl (by kernel_rfl) rfl ?ya16 (.inr xa15) ?ra16
    case ya16 => (intro w; (go_simp; with_reducible rfl))
    simp only [Act.put, lyA, lyB, lyC, lyD, lyE, lyF]
    refine KF 16 (v := ?va17) rfl (by kernel_rfl) rfl ?ya17 (.inr xa15) ?ra17
    case ya17 => (intro w; (go_simp; with_reducible rfl))
    simp only [Act.put, lyA, lyB, lyC, lyD, lyE, lyF]
    refine KF 17 (v := ?va18) rfl (by kernel_rfl) rfl ?ya18 (.inr xa15) ?ra18
    case ya18 => (intro w; (go_simp; with_reducible rfl))
    simp only [Act.put, lyA, lyB, lyC, lyD, lyE, lyF]
    refine K_end 18 rfl (by kernel_rfl) (by kernel_rfl) (fun K hK => ?_)
    have x8 := hid (xa15)
    have hb8 := (k5.out.ext x8.out).hb
    refine step_store0 rfl 66 _ _ rfl g [.int .i64 (fitR (fth fs k) p y).1.k, .int .i64 (fitR (fth fs k) p y).1.n, .string (fitR (fth fs k) p y).1.s] rfl rfl hb8 (by kernel_rfl) (by first | rfl | simp [Value.oneCell']) ?_
    refine hK _ _ ?_
    obtain ⟨w9, e9, k9, s9, o9, mv9⟩ := store_bk (k5.out.ext x8.out) [.int .i64 (fitR (fth fs k) p y).1.k, .int .i64 (fitR (fth fs k) p y).1.n, .string (fitR (fth fs k) p y).1.s] rfl
    rw [e9]
    clear hK K
    try simp only [Act.put, lyA, lyB, lyC, lyD, lyE, lyF]
    refine KF 19 (v := ?va20) rfl (by kernel_rfl) rfl ?ya20 (.inl (by kernel_rfl)) ?ra20
    case ya20 => (intro w; (go_simp; with_reducible rfl))
    simp only [Act.put, lyA, lyB, lyC, lyD, lyE, lyF]
    refine K_done (by kernel_rfl) (OnlyOn.normal ?_)
    have H9 := hid ((H5.out.ext x8.out).keep (fun q hq => o9 q (fun e => hg.out (e ▸ hq))) (by rw [s9]; exact Nat.le_refl _))
    have m9 := hid (mv9 _ _ (m5.out.ext x8.out) (.inr hwg.out))
    have k9 := hid k9
    have k12b := hid ((k12.out.ext x8.out).keep (o9 g12 (by have := hg12.out; omega)))
    clear H5 m5 k5 k12 x8 hb8 e9 s9 o9 mv9 hft
    generalize fitR (fth fs k) p y = r at *
    obtain ⟨v, er⟩ := r
    simp only at *
    by_cases her : er = 0
    · subst her
      rw [if_neg (by simp)] at hR
      obtain ⟨rs, vb, ra, d1, d2, d3, d4, d5⟩ := H9.out
      have hlen : rs.length + ra.length ≤ 300 := by rw [← d2, List.length_append, d1.len] at hl; exact hl
      have hal := hid (alterV_any i k g g12 v w9 d1 (by omega) (fun e => (d5 e).1) (by omega) hf hkl.out k9.out k12b.out hg.out (fun e => by have := hwb.out _ e; have := hg12.out; omega))
      have hfin := hid (fun w' (h : AltTo w9 w' lo b 1 p fs rs vb ra mode ((i : Int) + 1) ⟨(rth vb i).gone, (rth vb i).v.set k v⟩ i M) => h.seen d2 (by omega) d1.len d3 d4 (fun e => (d5 e).2))
      rw [vw_at d2 (by rw [d1.len]; omega)] at hfin hal
      clear d1 d2 d3 d4 d5 hlen H9 k9 k12b
      go_wp2_with fail
      refine hal.out.mono ?_
      rintro e w10 ⟨rfl, hA⟩
      have hW := hid (DeskW.trans m9.out (fun k hk => .inl hk) (hfin.out w10 hA))
      have c0 := hid hW.out.c0.1
      have g0 := hid hW.out.c0.2
      have hres := hid (hW.out.unlock hfb.out)
      clear hal hfin hA hW m9
      go_wp2
      refine leaves_cons (f := 57) (args := #[.pointer (some ⟨b, 0, none⟩)]) (by simp) (by simp [go_sem]) ?_
      refine (unlock_deferred muLib ⟨b, 0, none⟩ .returning _ c0.out g0.out).mono ?_
      rintro e u' w'' ⟨rfl, rfl, rfl⟩
      exact ⟨_, results_tmp rfl _ _ _, by rw [hE.out]; rfl, by rw [hR.out]; exact hres.out⟩
    · have her2 : (er != 0) = true := by simpa using her
      rw [if_pos her] at hR
      have hW := hid (DeskW.of H9.out m9.out)
      have c0 := hid hW.out.c0.1
      have g0 := hid hW.out.c0.2
      have hres := hid (hW.out.unlock hfb.out)
      clear H9 m9 k9 k12b hW her
      go_wp2
      refine leaves_cons (f := 57) (args := #[.pointer (some ⟨b, 0, none⟩)]) (by simp) (by simp [go_sem]) ?_
      refine (unlock_deferred muLib ⟨b, 0, none⟩ .returning _ c0.out g0.out).mono ?_
      rintro e u' w'' ⟨rfl, rfl, rfl⟩
      exact ⟨_, results_tmp rfl _ _ _, by rw [hE.out]; rfl, by rw [hR.out]; exact hres.out⟩
end
open Go.RowKit Go.Shelf Go.MuLone
def kF : List Fd := [⟨⟨#[78]⟩, 2, 3, false⟩]
def kR (z : Int) : List Rc := [⟨false, [⟨2, z, ⟨#[]⟩⟩]⟩]
theorem kOk1 : okT 0 kF (kR 1) := by unfold okT; kernel_rfl
theorem kOk5 : okT 0 kF (kR 5) := by unfold okT; kernel_rfl
theorem kSetE : setE 0 kF ⟨#[78]⟩ ⟨2, 5, ⟨#[]⟩⟩ = 0 := by kernel_rfl
theorem kSetR : setR 0 kF (kR 1) 0 ⟨#[78]⟩ ⟨2, 5, ⟨#[]⟩⟩ = kR 5 := by kernel_rfl
theorem rd_cs {w : World} {g k : Nat} {xs : List Value} {t : TypeId} (h : Bk w g xs t) (hk : xs.length = k) : Rd w k (some ⟨g, 0, none⟩) 1 1 xs :=
  ⟨by rw [hk, Nat.one_mul], Nat.le_refl _, by unfold maxLen; omega, fun _ => ⟨_, rfl, fun j u hu => by rw [lit_add0]; exact h.at hu⟩⟩
theorem knownChange_any (w : World) : Calls Tryz.prog 5 #[] w (Give (.bool true) w) := by
  have hnum := hid (fun z w' => Num_any z w')
  obtain ⟨w1, gF, eF, hF, sF, bF, xF⟩ := newB w [.string ⟨#[78]⟩, .int .i64 2, .int .i64 3, .bool false] 64
  have eF := eF.out
  have hFo := hF.out
  have bF := hid bF
  have xF := hid xF
  go_enter Tryz.func5, Tryz.ntmps5
  go_wp2_with fail
  try simp only [eF, hFo]
  refine (hnum.out 1 _).mono ?_
  rintro e w2 ⟨rfl, hx2⟩
  clear eF hFo
  obtain ⟨w3, gV, eV, hV, sV, bV, xV⟩ := newB w2 [.int .i64 2, .int .i64 1, .string ⟨#[]⟩] 66
  obtain ⟨w4, gR, eR, hR, sR, bR, xR⟩ := newB w3 [.bool false, .slice (some ⟨gV, 0, none⟩) 1 1] 69
  obtain ⟨w5, gT, eT, hT, sT, bT, xT⟩ := newB w4 [.int .i64 0, .slice (some ⟨gF, 0, none⟩) 1 1, .slice (some ⟨gR, 0, none⟩) 1 1] 25
  have x25 := xV.trans (xR.trans xT)
  have x15 := hx2.trans x25
  have hx5 := hid (xF.out.trans x15)
  have hf : RdF w5 (some ⟨gF, 0, none⟩) 1 1 kF := rd_cs (bF.out.ext x15) rfl
  have hv : RdV w5 (some ⟨gV, 0, none⟩) 1 1 [⟨2, 1, ⟨#[]⟩⟩] := rd_cs (bV.ext (xR.trans xT)) rfl
  have hr : RdR w5 (some ⟨gR, 0, none⟩) 1 1 (kR 1) := ⟨[⟨false, some ⟨gV, 0, none⟩, 1, 1⟩], rd_cs (bR.ext xT) rfl, rfl, fun i hi => by
    obtain rfl : i = 0 := by simp [kR] at hi; omega
    exact ⟨rfl, hv⟩⟩
  have hN := hid (deskNew_any 0 (some ⟨gF, 0, none⟩) 1 1 (some ⟨gR, 0, none⟩) 1 1 kF (kR 1) w5 hf hr kOk1)
  obtain ⟨t0, t1, t2⟩ := bT.c3
  unfold tb at hN
  have eV := eV.out
  have hV := hV.out
  have eR := eR.out
  have hR' := sV.out.symm.trans hR.out
  have hR0 := hR.out
  have eT := eT.out
  have hT' := sR.out.symm.trans hT.out
  have hT0 := hT.out
  have hs5 := hid hx5.out.size
  clear hf hv hr bF bV bR bT xF xV xR xT x25 x15 hx2 hF sF hR hT
  go_wp2_with fail
  try simp only [eV, hV, eR, hR', hR0, eT, hT', hT0]
  refine hN.out.mono ?_
  rintro e w6 ⟨b, M, rfl, hD, hch, hx6⟩
  have hD := hid hD
  have hbl := hid (hD.out.bd b hD.out.fb)
  have hlow := hid (fun k (q : DeskF M k) => (show w.heap.size ≤ k ∧ k < w6.heap.size from ⟨Nat.le_trans hs5.out (hD.out.bd k q).1, (hD.out.bd k q).2⟩))
  have hx6 := hid (hx5.out.trans hx6)
  have hM := hid (Mode_ok 2 w6 hD.out ⟨by rw [hch]; rfl, rfl⟩ (by omega))
  clear hN t0 t1 t2 hx5 eV hV eR hR' hR0 eT hT' hT0
  go_wp2_with fail
  refine hM.out.mono ?_
  rintro e w7 ⟨rfl, hD7, m7⟩
  have V7 : DeskV w7 w5.heap.size b 0 0 kF (kR 1) 1 2 0 M := ⟨kR 1, kR 1, [], hD7, by simp, by simp [kR], by simp, fun h => absurd h (by decide)⟩
  have hx7 := hid (Mv.base m7 hx6.out (fun k q => (hlow.out k q).1))
  have V7 := hid V7
  have hG := hid (Go_any 0 w7 V7.out (by simp [kR]) (by simp [kF]) (by omega))
  clear hM hD hD7 m7 hx6 hlow hbl
  go_wp2_with fail
  refine hG.out.mono ?_
  rintro e w8 ⟨rfl, M8, V8, m8, -⟩
  have hx8 := hid (Mv.base m8 hx7.out (fun k q => Nat.le_trans hs5.out (V7.out.lt q).1))
  have V8 := hid V8
  clear hG V7 hx7 m8
  go_wp2_with fail
  refine (hnum.out 5 _).mono ?_
  rintro e w9 ⟨rfl, hx9⟩
  have V9 := hid (V8.out.ext hx9)
  have hx9 := hid (hx8.out.trans hx9)
  have hS := hid (deskSet_any 0 ⟨#[78]⟩ ⟨2, 5, ⟨#[]⟩⟩ w9 V9.out (by simp [kR]) (by simp [kF]) (by omega))
  rw [kSetE, kSetR] at hS
  unfold vl at hS
  clear V8 hx8
  go_wp2_with fail
  refine hS.out.mono ?_
  rintro e w10 ⟨rfl, M10, V10, m10, -⟩
  have hx10 := hid (Mv.base m10 hx9.out (fun k q => Nat.le_trans hs5.out (V9.out.lt q).1))
  have V10 := hid V10
  have hSt := hid (Store_any w10 V10.out (by simp [kR]) (by simp [kF]))
  clear hS V9 hx9 m10
  go_wp2_with fail
  refine hSt.out.mono ?_
  rintro e w11 ⟨vv, rfl, M11, E11, m11, -⟩
  have hx11 := hid (Mv.base m11 hx10.out (fun k q => Nat.le_trans hs5.out (V10.out.lt q).1))
  have hb11 := hid (show w.heap.size ≤ b from Nat.le_trans hs5.out (V10.out.lt V10.out.fb).1)
  have E11 := hid E11
  have hT := hid (show Calls Tryz.prog 21 #[.pointer (some ⟨b, 0, none⟩)] w11 fun e w' => ∃ A1 d1 B1 d2, e = .returned (tb 0 A1 1 d1 B1 1 d2) ∧ OwT w' w11.heap.size 1 kF (kR 5) A1 1 d1 B1 1 d2 ∧ Mv w11 w' (fun k => k = b) from deskTable_any w11 E11.out kOk5)
  unfold tb at hT
  clear hSt V10 hx10 m11
  go_wp2_with fail
  refine hT.out.mono ?_
  rintro e w12 ⟨A1, d1, B1, d2, rfl, hO, m12⟩
  obtain ⟨rr, hO⟩ := hO.tt
  have hx12 := hid (Mv.base m12 hx11.out (fun k q => by subst q; exact hb11.out))
  obtain ⟨w13, gU, eU, hU, sU, bU, xU⟩ := newB w12 [.int .i64 0, .slice A1 1 d1, .slice B1 1 d2] 25
  have hr : RdR w13 B1 1 d2 (kR 5) := (hO.rr).ext xU
  obtain ⟨ad, C, nv, cv, rfl, c0, c1, hv⟩ := hr.at_ (i := 0) (by omega)
  have hnv : nv = 1 := hv.len.symm
  subst hnv
  obtain ⟨av, rfl, v0, v1, v2⟩ := hv.at_ (i := 0) (by omega)
  obtain ⟨t0, t1, t2⟩ := bU.c3
  rw [Nat.zero_mul, add0] at c0 c1 v0 v1 v2
  have hx13 := hid (hx12.out.trans xU)
  have eU := eU.out
  have hU := hU.out
  have k5 : (vth (rth (kR 5) 0).v 0).n = 5 := rfl
  rw [k5] at v1
  clear hT E11 hx11 m12 hO hr hv hx12 bU xU sU k5 v0 v2 c0
  go_upto_region 7 with fail
  try simp only [eU, hU]
  clear eU hU
  go_wp2
  go_ret
  exact ⟨rfl, hx13.out⟩
open Go.RowKit Go.Shelf Go.MuLone
section
variable {lo b : Nat} {s p : Int} {fs : List Fd} {r0 rs : List Rc} {L : Lm}
theorem End_any (w : World) (H : LogI w lo b 0 p fs r0 rs L) (hE0 : okT p fs r0) (hE : okT p fs rs) (hl : L.ln = 1) : Calls Tryz.prog 16 #[.pointer (some ⟨b, 0, none⟩)] w fun e w' => e = .returned (.int .i64 0) ∧ LogD w' b 0 p fs rs (fun k => LogF b L k ∨ w.heap.size ≤ k) ∧ Mv w w' (LogF b L) := by
  have hq := hid (enterL_any b w (H.bk.at rfl) (H.bk.free 0))
  have H1 := hid (H.turn 1)
  have m1 := hid ((Mv.refl (w := w) (F := LogF b L)).set (.inl (.inl rfl)) 0 (.int .i32 1))
  have hE := hid hE
  have hE0 := hid hE0
  clear H
  go_enter_defers Tryz.func16, Tryz.ntmps16
  go_wp2_with fail
  refine hq.out.mono ?_
  rintro e w2 ⟨rfl, hx2⟩
  have H2 := hid (H1.out.ext hx2)
  have m2 := hid (m1.out.ext hx2)
  have hlv := hid (leave_any w2 H2.out hl)
  clear hq hx2 H1 m1
  go_wp2_with fail
  refine hlv.out.mono ?_
  rintro e w3 ⟨⟨A, n, c, B, m, d, rfl⟩, HJ, m3⟩
  have HJ := hid HJ
  have m3 := hid (m2.out.trans m3 (fun k e => .inl (.inl e)))
  clear hlv H2 m2
  obtain ⟨w4, g, e4, h4, s4, k4, x4⟩ := newB w3 [.int .i64 p, .slice A n c, .slice B m d] 25
  have HJ4 := hid (HJ.out.ext x4)
  have m4 := hid (m3.out.ext x4)
  have hcm := hid (commit2_any w4 HJ4.out hE0.out hE.out rfl)
  clear HJ m3 k4 x4 s4
  go_upto_region 8 with fail
  try simp only [e4.out, h4.out]
  clear e4 h4
  go_wp2_with fail
  refine hcm.out.mono ?_
  rintro e w5 ⟨rfl, ⟨nn, hD⟩, m5⟩
  obtain ⟨c0, g0⟩ := hD.c0
  have c0 := hid c0
  have g0 := hid g0
  have hres := hid ((hD.turn 0).mono (G' := fun k => LogF b L k ∨ w.heap.size ≤ k) (fun k e => e.imp id (fun q => Nat.le_trans m4.out.size q)))
  have m9 := hid ((m4.out.trans m5 (fun k e => .inl e)).set (g := b) (.inl (.inl rfl)) 0 (.int .i32 0))
  clear hcm HJ4 m4 m5 hD
  go_wp2
  refine leaves_cons (f := 57) (args := #[.pointer (some ⟨b, 0, none⟩)]) (by simp) (by simp [go_sem]) ?_
  refine (unlock_deferred muLib ⟨b, 0, none⟩ .returning _ c0.out g0.out).mono ?_
  rintro e u' w'' ⟨rfl, rfl, rfl⟩
  exact ⟨_, results_tmp rfl _ _ _, rfl, ⟨nn, hres.out⟩, m9.out⟩
end
section
variable {b n : Nat} {p : Int} {fs : List Fd} {rs : List Rc} {G : Nat → Prop}
theorem Commits_any (w : World) (H : LogDn w b 0 p fs rs G n) : Calls Tryz.prog 18 #[.pointer (some ⟨b, 0, none⟩)] w fun e w' => e = .returned (.int .i64 ((n : Int) - 1)) ∧ LogDn w' b 0 p fs rs G n ∧ Mv w w' (fun k => k = b) := by
  have hq := hid (enterL_any b w H.c0.1 H.c0.2)
  have H1 := hid (H.turn 1)
  have m1 := hid ((Mv.refl (w := w) (F := fun k => k = b)).set (.inl rfl) 0 (.int .i32 1))
  have hn : n = 1 ∨ n = 2 := by
    obtain ⟨lo, A, c, t, x3, x4, x5, x7, x8, x9, x10, es, h1, h2, -⟩ := H
    exact h2
  have i1 := IntWalk.i64_in ((n : Int) - 1) (by omega)
  clear H hn
  go_enter_defers Tryz.func18, Tryz.ntmps18
  go_wp2_with fail
  refine hq.out.mono ?_
  rintro e w2 ⟨rfl, hx2⟩
  have H2 := hid (H1.out.ext hx2)
  have m2 := hid (m1.out.ext hx2)
  clear hq hx2 H1 m1
  have hres := hid (H2.out.turn 0)
  have m9 := hid (m2.out.set (g := b) (.inl rfl) 0 (.int .i32 0))
  obtain ⟨c0, g0⟩ := H2.out.c0
  have c0 := hid c0
  have g0 := hid g0
  have hc6 : ∃ A c, w2.cell? ⟨b, 6, none⟩ = some (.slice A n c) := by
    obtain ⟨lo, A, c, t, x3, x4, x5, x7, x8, x9, x10, es, h1, h2, -⟩ := H2.out
    exact ⟨A, c, h1.at rfl⟩
  obtain ⟨A, c, a6⟩ := hc6
  clear H2 m2
  go_wp2
  refine leaves_cons (f := 57) (args := #[.pointer (some ⟨b, 0, none⟩)]) (by simp) (by simp [go_sem]) ?_
  refine (unlock_deferred muLib ⟨b, 0, none⟩ .returning _ c0.out g0.out).mono ?_
  rintro e u' w'' ⟨rfl, rfl, rfl⟩
  exact ⟨_, results_tmp rfl _ _ _, rfl, hres.out, m9.out⟩
end
open Go.RowKit Go.Shelf Go.MuLone
theorem results_row_tmp {P : Program} {fn : Func} {p u : Tmp} {ty : TypeId} (h : fn.results = #[.cell p ty, .tmp u]) (tmps : Array Value) (w : World) (g : Nat) (t : TypeId) (cs : Array Value) (fr : Nat × Nat) (d : TypeDesc)
    (hp : tmps.getD p undef = .pointer (some ⟨g, 0, none⟩)) (hg : w.heap[g]? = some (.cells cs t fr)) (hu : P.underlying ty = some d) (hd : (match d with | .struct _ | .array _ _ => true | _ => false) = true) (hi : (P.info? ty).map (·.size) = some cs.size) :
    (results fn tmps).run P w = .ok (.tuple #[.agg cs, tmps.getD u undef]) w := by
  rw [results_cell_tmp h, hp]
  simp [asAddr, run_loadVar_row w g t ty cs fr d hg hu hd hi, Result.andThen]
theorem LogDn.fin {w w' : World} {b n : Nat} {s s' p : Int} {fs : List Fd} {rs : List Rc} {G : Nat → Prop} (H : LogDn w b s p fs rs G n) (hm : Mv w w' (fun k => k = b)) (hb : ∀ xs, Bk w b xs 108 → Bk w' b (xs.set 0 (.int .i32 s')) 108) : LogDn w' b s' p fs rs G n := by
  obtain ⟨lo, A, c, t, x3, x4, x5, x7, x8, x9, x10, es, i1, i2, i3, i4, i5, i6, i7, i8, i9⟩ := H
  exact ⟨lo, A, c, t, x3, x4, x5, x7, x8, x9, x10, es, hb _ i1, i2, own_same i3 (fun k q => hm.at (World.ownsRow.lt i3 k q).2 (i9 k q).1), i4, i5.keep (fun k q => hm.at (i5.lt q).2 (fun e => i6 (e ▸ q))), i6, i7, i8, i9⟩
section
variable {b n : Nat} {p : Int} {fs : List Fd} {rs : List Rc} {G : Nat → Prop}
theorem Committed_any (w : World) (H : LogDn w b 0 p fs rs G n) (hE : okT p fs rs) : Calls Tryz.prog 17 #[.pointer (some ⟨b, 0, none⟩), .int .i64 ((n : Int) - 1)] w fun e w' =>
    ∃ A1 d1 B1 d2, e = .returned (.tuple #[tb p A1 fs.length d1 B1 rs.length d2, .int .i64 0]) ∧ OwT w' w.heap.size fs.length fs rs A1 fs.length d1 B1 rs.length d2 ∧ LogDn w' b 0 p fs rs G n ∧ Mv w w' (fun k => k = b) := by
  obtain ⟨w1, g, e1, h1, s1, kg, x1⟩ := newB w [.int .i64 0, .slice none 0 0, .slice none 0 0] 25
  have H1 := H.ext x1
  have hgw := hid (show w.heap.size ≤ g by have := h1.out; omega)
  have hbg := hid (show b ≠ g by have := H.lt; have := h1.out; omega)
  have hq := hid (enterL_any b w1 H1.c0.1 H1.c0.2)
  have H2 := hid (H1.turn 1)
  have k2 := hid (kg.other (Ne.symm hbg.out) 0 (.int .i32 1))
  have m2 := hid ((Mv.of (F := fun k => k = b) x1).set (.inl rfl) 0 (.int .i32 1))
  have hl := hE.len
  have hW := hid hE.wid
  have hB2 := hid (fun xs (h : Bk w b xs 108) => (h.ext x1).set 0 (.int .i32 1))
  have H0 := hid H
  clear H H1 x1 kg hE
  have hn : n = 1 ∨ n = 2 := by
    obtain ⟨lo, A, c, t, x3, x4, x5, x7, x8, x9, x10, es, h1, h2, -⟩ := H2.out
    exact h2
  have hbl := hid k2.out.lt
  go_enter_defers Tryz.func17, Tryz.ntmps17
  go_upto_region 1 with fail
  try simp only [e1.out, h1.out]
  clear e1 h1 s1
  go_wp2_with fail
  refine hq.out.mono ?_
  rintro e w2 ⟨rfl, hx2⟩
  have H3 := hid (H2.out.ext hx2)
  have k3 := hid (k2.out.ext hx2)
  have m3 := hid (m2.out.ext hx2)
  have hB3 := hid (fun xs (h : Bk w b xs 108) => (hB2.out xs h).ext hx2)
  clear hq hx2 H2 m2 k2 hB2
  obtain ⟨lo, A, c, t, x3, x4, x5, x7, x8, x9, x10, es, i1, i2, i3, i4, i5, i6, i7, i8, i9⟩ := H3.out
  obtain ⟨gA, rfl, -, -⟩ := own_blk i3 (by omega)
  have rf3 : RdF w2 t.A fs.length t.c fs := by have := i5.rf; rwa [i5.2.2.2.2.1] at this
  have rr3 : RdR w2 t.B rs.length t.d rs := by have := i5.rr; rwa [i5.2.2.2.1] at this
  have hcp := hid (Copied_any p t.A fs.length t.c t.B rs.length t.d fs.length fs rs w2 rf3 rr3 (by omega) (by omega) hl.1 (by omega) hW.out)
  unfold tb at hcp
  have hlast : ∀ i u, [Value.int .i64 p, .slice t.A fs.length t.c, .slice t.B rs.length t.d][i]? = some u → w2.cell? ⟨gA, 3 * (n - 1) + i, none⟩ = some u := fun i u hu => by
    have hi : i < 3 := by have := (List.getElem?_eq_some_iff.1 hu).1; simpa using this
    rw [i3.cellAt (3 * (n - 1) + i) (by omega), ← i4, List.getElem?_append_right (by omega), Nat.add_sub_cancel_left]
    exact hu
  have f0 := hlast 0 _ rfl
  have f1 := hlast 1 _ rfl
  have f2 := hlast 2 _ rfl
  have a6 := i1.at (i := 6) rfl
  clear hlast i1 i2 i3 i4 i5 i6 i7 i8 i9 rf3 rr3 hl
  rcases hn with rfl | rfl
  all_goals
    simp only [Nat.reduceAdd, Nat.reduceMul, Nat.reduceSub] at f0 f1 f2 ⊢
    go_wp2_with fail
    refine hcp.out.mono ?_
    rintro e w4 ⟨A1, d1, B1, d2, rfl, hO, hx4⟩
    obtain ⟨rr, hO⟩ := hO.tt
    have k4 := k3.out.ext hx4
    have H4 := H3.out.ext hx4
    have m4 := m3.out.ext hx4
    obtain ⟨z0, z1, z2⟩ := k4.c3
    have fz0 := k4.free 0
    have fz1 := k4.free 1
    have fz2 := k4.free 2
    have hs2 := hid m3.out.size
    have hgl := hid k3.out.lt
    have hbl2 := hid H3.out.lt
    have hs := set3_at w4 g (.int .i64 p) (.slice A1 fs.length d1) (.slice B1 rs.length d2)
    have k5 := k4.set3 (.int .i64 p) (.slice A1 fs.length d1) (.slice B1 rs.length d2)
    have m5 := m4.set3 (g := g) (.inr hgw.out) (.int .i64 p) (.slice A1 fs.length d1) (.slice B1 rs.length d2)
    have O5 := hO.keep (fun k hk => hs.2 k (by have := (hO.lt hk).1; have := hgl.out; omega))
    have hb5 := hid (fun xs (h : Bk w b xs 108) => ((hB3.out xs h).ext hx4).keep (hs.2 b hbg.out))
    have H5 : ∃ v, Bk ((w4.setCell ⟨g, 0, none⟩ (.int .i64 p)).setCell ⟨g, 1, none⟩ (.slice A1 fs.length d1) |>.setCell ⟨g, 2, none⟩ (.slice B1 rs.length d2)) b (.int .i32 1 :: v) 108 := by
      obtain ⟨lo, A, c, t, x3, x4, x5, x7, x8, x9, x10, es, i1, -⟩ := H4
      exact ⟨_, i1.keep (hs.2 b hbg.out)⟩
    obtain ⟨vv, H5⟩ := H5
    have c0 := hid (H5.at (i := 0) rfl)
    have g0 := hid (H5.free 0)
    have m9 := hid (m5.set (g := b) (.inl rfl) 0 (.int .i32 0))
    have hob := hid ((O5.keep (fun k hk => (setCell_at _ b 0 (.int .i32 0)).2 k (by have := (O5.lt hk).1; have := hbl2.out; omega))).lo' hs2.out)
    have hkb := hid (k5.other (g := b) (Ne.symm hbg.out) 0 (.int .i32 0))
    have hD := hid (H0.out.fin m9.out (s' := 0) (fun xs h => by have := (hb5.out xs h).set 0 (.int .i32 0); rwa [List.set_set] at this))
    clear k3 H3 m3 k4 H4 m4 hO hs k5 m5 O5 hx4 hcp H5 hb5 hB3 H0 f0 f1 f2 a6
    go_wp2
    refine leaves_cons (f := 57) (args := #[.pointer (some ⟨b, 0, none⟩)]) (by simp) (by simp [go_sem]) ?_
    refine (unlock_deferred muLib ⟨b, 0, none⟩ .returning _ c0.out g0.out).mono ?_
    rintro e u' w'' ⟨rfl, rfl, rfl⟩
    exact ⟨_, results_row_tmp rfl _ _ g 25 _ (0, 0) _ rfl hkb.out Tryz.underlying25 rfl (by kernel_rfl), _, _, _, _, rfl, ⟨rr, hob.out⟩, hD.out, m9.out⟩
end
open Go.RowKit Go.Shelf Go.MuLone
section
variable {w w1 w' : World} {lo b n0 i : Nat} {s s' p : Int} {fs : List Fd} {rs vb ra : List Rc} {mode at_ at' : Int} {M M1 : Dm}
open Classical in
noncomputable def tagP (τ : Nat → Tg) (n : Nat) (F : Nat → Prop) (g : Tg) : Nat → Tg := fun k => if n ≤ k ∧ F k then g else τ k
theorem tagP_old {τ : Nat → Tg} {n k : Nat} {F : Nat → Prop} {g : Tg} (h : k < n) : tagP τ n F g k = τ k := if_neg (fun e => by omega)
theorem tagP_new {τ : Nat → Tg} {n k : Nat} {F : Nat → Prop} {g : Tg} (h : n ≤ k) (hF : F k) : tagP τ n F g k = g := if_pos ⟨h, hF⟩
theorem tagP_no {τ : Nat → Tg} {n k : Nat} {F : Nat → Prop} {g : Tg} (h : tagP τ n F g k ≠ .no) : τ k ≠ .no ∨ (n ≤ k ∧ F k) := by
  by_cases q : n ≤ k ∧ F k
  · exact .inr q
  · unfold tagP at h; rw [if_neg q] at h; exact .inl h
theorem DeskI.table {rs' : List Rc} {u : Tt} (h : DeskI w lo b s p fs rs vb ra mode at_ M) (hc : M.ch = []) (hb : Bk w' b (deskC s p mode at' { M with t := u }) 93) (hU : OwTt w' lo fs.length fs rs' u) (hF : ∀ k, u.F k → M.t.F k ∨ w.heap.size ≤ k) (hm : Mv w w' (fun k => k = b ∨ M.t.F k)) :
    DeskI w' lo b s p fs rs' rs' ra mode at' { M with t := u, τ := tagP M.τ w.heap.size u.F .tab } ∧ ∀ k, tagP M.τ w.heap.size u.F .tab k ≠ .no → M.τ k ≠ .no ∨ w.heap.size ≤ k := by
  have nt : ∀ {k : Nat} {g : Tg}, M.τ k = g → g ≠ .tab → g ≠ .desk → g ≠ .no → w'.heap[k]? = w.heap[k]? := fun e h1 h0 h2 => hm.at (h.bd _ (by rw [e]; exact h2)).2 (fun hF => hF.elim (fun hF => h0 (by rw [← e, hF, h.td])) (fun hF => h1 (by rw [← e, h.tt _ hF])))
  have tg : ∀ {k : Nat} {g : Tg}, M.τ k = g → g ≠ .no → tagP M.τ w.heap.size u.F .tab k = g := fun e a => by rw [tagP_old (h.bd _ (by rw [e]; exact a)).2, e]
  refine ⟨⟨hb, hU, h.cm.keep (nt h.tc (by simp) (by simp) (by simp)), h.lm.keep (nt h.tl (by simp) (by simp) (by simp)),
    h.ap.keep (fun g hg => nt (h.ta g (.inl hg)) (by simp) (by simp) (by simp)) (fun i hi => nt (h.ta _ (.inr ⟨i, by have := h.pl.1; omega, rfl⟩)) (by simp) (by simp) (by simp)), h.pl, fun e he => ?_, fun _ _ _ => rfl, rfl, tg h.td (by simp), fun k q => ?_, tg h.tc (by simp), tg h.tl (by simp), fun k q => tg (h.ta k q) (by simp), fun e he => ?_,
    fun k q => ?_⟩, fun k q => (tagP_no q).imp id (fun e => e.1)⟩
  · rw [hc] at he; cases he
  · rcases hF k q with e | e
    · exact tg (h.tt k e) (by simp)
    · exact tagP_new e q
  · rw [hc] at he; cases he
  · rcases tagP_no q with e | ⟨e, f⟩
    · exact ⟨(h.bd k e).1, Nat.lt_of_lt_of_le (h.bd k e).2 hm.size⟩
    · exact hU.lt f
theorem DeskI.buffer {A' : Option Addr} {c' : Nat} {y : Rr} {x : Rc} (h : DeskI w lo b s p fs rs vb ra mode at_ M) (hb : Bk w' b (deskC s p mode at' { M with pA := A', pn := ra.length + 1, pc := c' }) 93)
    (hO : OwR w' lo fs.length (.slice A' (ra.length + 1) c') (M.pr ++ [y]) (ra ++ [x]) (ra ++ [x]).length) (hv : (Value.slice A' (ra.length + 1) c').ownBlock = (Value.slice M.pA M.pn M.pc).ownBlock ∨ ∀ g, (Value.slice A' (ra.length + 1) c').ownBlock = some g → w.heap.size ≤ g) (hy : w.heap.size ≤ rb y)
    (hm : Mv w w' (fun k => k = b ∨ (Value.slice M.pA M.pn M.pc).ownBlock = some k)) :
    ∃ τ', DeskI w' lo b s p fs rs vb (ra ++ [x]) mode at' { M with pA := A', pn := ra.length + 1, pc := c', pr := M.pr ++ [y], τ := τ' } ∧ ∀ k, τ' k ≠ .no → M.τ k ≠ .no ∨ w.heap.size ≤ k := by
  have hl : (M.pr ++ [y]).length = (ra ++ [x]).length := by simp [h.pl.1]
  have hF : ∀ k, apF { M with pA := A', pn := ra.length + 1, pc := c', pr := M.pr ++ [y] } k → (apF M k ∨ w.heap.size ≤ k) ∧ lo ≤ k ∧ k < w'.heap.size := fun k hk => by
    rcases hk with e | ⟨i, hi, e⟩
    · have h1 := hO.1.lt k e
      refine ⟨?_, h1⟩
      rcases hv with hv | hv
      · exact .inl (.inl (by rw [← hv]; exact e))
      · exact .inr (hv k e)
    · simp only at hi e
      have h1 := (hO.2.1 i (by omega)).lt
      rw [e] at h1
      refine ⟨?_, h1⟩
      by_cases q : i = M.pr.length
      · subst q; rw [rrth_app_eq] at e; exact .inr (by omega)
      · have hi2 : i < M.pr.length := by simp at hi; omega
        rw [rrth_app_lt hi2] at e
        exact .inl (.inr ⟨i, hi2, e⟩)
  have nt : ∀ {k : Nat} {g : Tg}, M.τ k = g → g ≠ .app → g ≠ .desk → g ≠ .no → w'.heap[k]? = w.heap[k]? := fun e h1 h0 h2 => hm.at (h.bd _ (by rw [e]; exact h2)).2 (fun hF => hF.elim (fun hF => h0 (by rw [← e, hF, h.td])) (fun hF => h1 (by rw [← e, h.ta _ (.inl hF)])))
  refine ⟨tagP M.τ w.heap.size (apF { M with pA := A', pn := ra.length + 1, pc := c', pr := M.pr ++ [y] }) .app, ?_, fun k q => (tagP_no q).imp id (fun e => e.1)⟩
  have tg : ∀ {k : Nat} {g : Tg}, M.τ k = g → g ≠ .no → tagP M.τ w.heap.size (apF { M with pA := A', pn := ra.length + 1, pc := c', pr := M.pr ++ [y] }) .app k = g := fun e a => by rw [tagP_old (h.bd _ (by rw [e]; exact a)).2, e]
  refine ⟨hb, h.ow.keep (fun k q => nt (h.tt k q) (by simp) (by simp) (by simp)), h.cm.keep (nt h.tc (by simp) (by simp) (by simp)), h.lm.keep (nt h.tl (by simp) (by simp) (by simp)), hO, ⟨hl, by simp⟩, fun e he => ?_, h.un, h.len, tg h.td (by simp), fun k q => tg (h.tt k q) (by simp), tg h.tc (by simp), tg h.tl (by simp), fun k q => ?_, fun e he => ⟨tg (h.tv e he).1 (by simp), tg (h.tv e he).2 (by simp)⟩, fun k q => ?_⟩
  · obtain ⟨i, h1, h2, h3, h4⟩ := h.cv e he
    exact ⟨i, h1, h2, h3.keep (nt (h.tv e he).1 (by simp) (by simp) (by simp)), h4.keep (nt (h.tv e he).2 (by simp) (by simp) (by simp))⟩
  · rcases (hF k q).1 with e | e
    · exact tg (h.ta k e) (by simp)
    · exact tagP_new e q
  · rcases tagP_no q with e | ⟨_, f⟩
    · exact ⟨(h.bd k e).1, Nat.lt_of_lt_of_le (h.bd k e).2 hm.size⟩
    · exact (hF k f).2
end
end Go.Proofs.YtngoebbmgpdeiaaGreatDoor
