/-
  The bag: a change of it; The bag: a mark, a record more; The bag: a record more.
-/
import Derived.Test.YtngoebbmgpdeiaaGreatDoorQ6
set_option maxRecDepth 100000
set_option maxHeartbeats 40000000
set_option linter.unusedVariables false
set_option linter.unusedSimpArgs false
namespace Go.Proofs.YtngoebbmgpdeiaaGreatDoor
open Go.RowKit Go.Shelf Go.MuLone
def Chg (g : Nat) (caps : List Value) (w : World) (b : Nat) (p : Int) (fs : List Fd) (rs rs' : List Rc) (er : Int) (C : Nat → Prop) (Post : World → Prop) : Prop :=
  ∀ (w1 : World) (a : Nat) (t1 : Tt), Mv w w1 (fun k => k = b) → Bk w1 a [.int .i64 p, .slice t1.A t1.n t1.c, .slice t1.B t1.m t1.d] 25 → OwTt w1 w.heap.size fs.length fs rs t1 → w.heap.size ≤ a → ¬ t1.F a →
    Calls Tryz.prog g (.pointer (some ⟨a, 0, none⟩) :: caps).toArray w1 fun e w2 => e = .returned (.int .i64 er) ∧ ∃ t2, Bk w2 a [.int .i64 p, .slice t2.A t2.n t2.c, .slice t2.B t2.m t2.d] 25 ∧ OwTt w2 w.heap.size fs.length fs rs' t2 ∧ ¬ t2.F a ∧
      Mv w1 w2 (fun k => k = a ∨ t1.F k ∨ C k) ∧ Post w2
theorem ow_ge {w : World} {lo wd : Nat} {fs : List Fd} {rs : List Rc} {t : Tt} (h : OwTt w lo wd fs rs t) {k : Nat} (hk : k < lo) : ¬ t.F k := fun e => by have := (h.lt e).1; omega
theorem try83 (lo b : Nat) (p er : Int) (fs : List Fd) (rs rs' R : List Rc) (t : Tt) (C : Nat → Prop) (Post : World → Prop) (g1 g2 : Nat) (w : World) (hR0 : er = 0 → R = rs') (hR1 : er ≠ 0 → R = rs) (H : BagI w lo b 0 p fs rs t) (hE : okT p fs rs) (hC : ∀ k, C k → ¬ bF b t k)
    (hlo : lo ≤ w.heap.size) (hP : ∀ w1 w2, Post w1 → (∀ k, C k → w2.heap[k]? = w1.heap[k]?) → Post w2) (hCl : ∀ k, C k → k < w.heap.size)
    (hcl : Chg 83 [.pointer (some ⟨g1, 0, none⟩), .pointer (some ⟨g2, 0, none⟩)] w b p fs rs rs' er C Post) : Calls Tryz.prog 82 #[.pointer (some ⟨b, 0, none⟩), .func (.func 83) #[] #[.pointer (some ⟨g1, 0, none⟩), .pointer (some ⟨g2, 0, none⟩)]] w fun e w' =>
    e = .returned (.int .i64 er) ∧ ∃ t', BagI w' lo b 0 p fs R t' ∧ Mv w w' (fun k => k = b ∨ C k) ∧ (∀ k, t'.F k → t.F k ∨ w.heap.size ≤ k) ∧ Post w' := by
  have H2 := H.turn 1
  have c0 := H.bk.at (i := 0) rfl
  have f0 := H.bk.free 0
  have q := hid (bagLock_any b w c0 f0)
  have m2 := hid ((Mv.refl (w := w) (F := fun k => k = b)).set (.inl rfl) 0 (.int .i32 1))
  have hl := hE.len
  have q2 := hid (bcopied_any p t.A t.n t.c t.B t.m t.d fs.length fs rs _ H2.ow.rf H2.ow.rr (by have := H.ow.2.2.2.2.1; omega) (by have := H.ow.2.2.2.1; omega) hl.1 (by omega) hE.wid)
  have H2 := hid H2
  obtain ⟨a0, a1, a2, a3, a4, a5⟩ := H2.out.cells
  have hlt := hid (fun k (hk : bF b t k) => (H.lt hk).2)
  have hbn := hid (H.nb)
  have hC := hid hC
  have hP := hid hP
  have hCl := hid hCl
  have en : ∀ (a : Value) (w : World), (callFunc 83 #[a, .pointer (some ⟨g1, 0, none⟩), .pointer (some ⟨g2, 0, none⟩)]).run Tryz.prog w = .ok (.enter 83 #[a, .pointer (some ⟨g1, 0, none⟩), .pointer (some ⟨g2, 0, none⟩)]) w := fun a w => by kernel_rfl
  unfold Chg at hcl
  have hcl := hid hcl
  clear H c0 f0
  unfold tb at q2
  go_enter_defers Tryz.func82, Tryz.ntmps82
  go_upto_region 1 with fail
  go_wp2_with fail
  refine q.out.mono ?_
  rintro e w2 ⟨rfl, rfl⟩
  clear q
  have hws : w.heap.size ≤ (w.setCell ⟨b, 0, none⟩ (.int .i32 1)).heap.size := m2.out.size
  generalize w.setCell ⟨b, 0, none⟩ (.int .i32 1) = w2 at *
  go_wp2_with fail
  refine q2.out.mono ?_
  rintro e w3 ⟨A1, d1, B1, d2, rfl, hO, hx3⟩
  clear q2 a0 a1 a2 a3 a4 a5
  go_upto_region 5 with fail
  obtain ⟨w4, a, e4, h4, s4, ka, x4⟩ := newB w3 [.int .i64 p, .slice A1 t.n d1, .slice B1 t.m d2] 25
  simp only [e4.out, h4.out]
  obtain ⟨rr, hO⟩ := hO.tt
  have hO4 := (hO.lo' hws).ext x4
  have ha : w.heap.size ≤ a := by have := h4.out; have := hx3.size; omega
  have hna : ¬ (⟨A1, t.n, d1, B1, t.m, d2, rr⟩ : Tt).F a := fun e => by have := (hO.lt e).2; have := h4.out; omega
  have hab : a ≠ b := by have := hlt.out b (.inl rfl); omega
  have m4 := hid ((m2.out.ext hx3).ext x4)
  have hq := hid (hcl.out w4 a _ m4.out ka hO4 ha hna)
  have H4 := hid ((H2.out.ext hx3).ext x4)
  have hw24 := hid (hx3.trans x4)
  have h1F := hid (fun k (hk : (⟨A1, t.n, d1, B1, t.m, d2, rr⟩ : Tt).F k) => (hO.lt hk).1)
  generalize (⟨A1, t.n, d1, B1, t.m, d2, rr⟩ : Tt) = t1 at *
  clear e4 h4 s4 ka hO hO4 hx3 x4 hcl H2 m2
  go_wp2_with fail
  refine hq.out.mono ?_
  rintro e w5 ⟨rfl, t2, ka5, hO5, hna5, m5, hPo⟩
  clear hq
  have H5 := hid (H4.out.keep (fun k hk => m5.at (H4.out.lt hk).2 (fun e => by
    have hk2 := hlt.out k hk
    rcases e with e | e | e
    · omega
    · have := h1F.out k e; omega
    · exact hC.out k e hk)))
  have m6 : Hid (Mv w w5 (fun k => k = b ∨ C k)) := hid ((m4.out.mono (fun k e => .inl e)).trans m5 (fun k hk => by
    rcases hk with e | e | e
    · exact .inr (by omega)
    · exact .inr (by have := h1F.out k e; omega)
    · exact .inl (.inr e)))
  have hPo := hid hPo
  have hO5 := hid hO5
  have ka5 := hid ka5
  have hna5 := hid hna5
  clear H4 m4 m5 hw24
  by_cases he : er = 0
  · subst he
    obtain rfl := hR0 rfl
    clear hR0 hR1
    obtain ⟨v0, v1, v2⟩ := ka5.out.c3
    obtain ⟨a0, a1, a2, a3, a4, a5⟩ := H5.out.cells
    have hq8 := hid (fun w => changed_any p t t2 w)
    unfold stV tb at hq8
    go_upto_region 8 with fail
    have xt := (Ext.refl w5).drew_right
    refine region_J (fun w' => Ext w5 w') 12 (by kernel_rfl) ?_
    generalize w5.drew = dt at xt ⊢
    refine JR 0 (v := ?vt1) rfl (by kernel_rfl) rfl ?yt1 xt ?rt1
    case yt1 => (intro w hw; (go_simp; with_reducible rfl))
    simp only [Act.put, lyA, lyB, lyC, lyD, lyE, lyF]
    refine JR 1 (v := ?vt2) rfl (by kernel_rfl) rfl ?yt2 xt ?rt2
    case yt2 => (intro w hw; (go_simp; with_reducible rfl))
    simp only [Act.put, lyA, lyB, lyC, lyD, lyE, lyF]
    refine JR 2 (v := ?vt3) rfl (by kernel_rfl) rfl ?yt3 xt ?rt3
    case yt3 => (intro w hw; (go_simp; with_reducible rfl))
    simp only [Act.put, lyA, lyB, lyC, lyD, lyE, lyF]
    refine JR 3 (v := ?vt4) rfl (by kernel_rfl) rfl ?yt4 xt ?rt4
    case yt4 => (intro w hw; obtain ⟨v0, v1, v2⟩ := (ka5.out.ext hw).c3; obtain ⟨a0, a1, a2, a3, a4, a5⟩ := (H5.out.ext hw).cells; (go_simp; with_reducible rfl))
    simp only [Act.put, lyA, lyB, lyC, lyD, lyE, lyF]
    refine JR 4 (v := ?vt5) rfl (by kernel_rfl) rfl ?yt5 xt ?rt5
    case yt5 => (intro w hw; obtain ⟨v0, v1, v2⟩ := (ka5.out.ext hw).c3; obtain ⟨a0, a1, a2, a3, a4, a5⟩ := (H5.out.ext hw).cells; (go_simp; with_reducible rfl))
    simp only [Act.put, lyA, lyB, lyC, lyD, lyE, lyF]
    refine J_two 5 9 rfl rfl (by kernel_rfl) (fun K hK => ?_) (fun K hK => ?_)
    · go_simp
      refine (hq8.out _).mono ?_
      rintro e wt6 ⟨rfl, hxt6⟩
      refine hK _ _ ⟨fun _ => ((xt).trans hxt6), ?_⟩
      clear hK K
      try simp only [Act.put, lyA, lyB, lyC, lyD, lyE, lyF]
      have xt6 := ((xt).trans hxt6)
      refine JR 6 (v := ?vt7) rfl (by kernel_rfl) rfl ?yt7 xt6 ?rt7
      case yt7 => (intro w hw; (go_simp; with_reducible rfl))
      simp only [Act.put, lyA, lyB, lyC, lyD, lyE, lyF]
      refine JR 7 (v := ?vt8) rfl (by kernel_rfl) rfl ?yt8 xt6 ?rt8
      case yt8 => (intro w hw; (go_simp; with_reducible rfl))
      simp only [Act.put, lyA, lyB, lyC, lyD, lyE, lyF]
      refine JR 8 (v := ?vt9) rfl (by kernel_rfl) rfl ?yt9 xt6 ?rt9
      case yt9 => (intro w hw; (go_simp; with_reducible rfl))
      simp only [Act.put, lyA, lyB, lyC, lyD, lyE, lyF]
      refine J_one 9 rfl (by kernel_rfl) (fun K hK => ?_)
      go_simp
      obtain ⟨wt10, bt10, et10, gt10, ht10, ct10, hxt10, lt10⟩ := alloc_at wt6 [.int .i64 0, .slice none 0 0, .slice none 0 0, .slice none 0 0] 75
      simp only [et10, gt10]
      have zt10 : w5.heap.size ≤ bt10 := by rw [← gt10]; exact (xt6).size
      have yt10 : wt6.heap.size ≤ bt10 := by rw [← gt10]; exact Nat.le_refl _
      clear et10 gt10 ct10
      refine hK _ _ ⟨fun _ => ((xt6).trans hxt10), ?_⟩
      clear hK K
      try simp only [Act.put, lyA, lyB, lyC, lyD, lyE, lyF]
      have xt10 := ((xt6).trans hxt10)
      refine J_one 10 rfl (by kernel_rfl) (fun K hK => ?_)
      refine step_store0 rfl 75 _ _ rfl bt10 [.int .i64 p, .slice t2.A t2.n t2.c, .slice t2.B t2.m t2.d, .slice none 0 0] rfl rfl ht10 (by kernel_rfl) (by first | rfl | simp [Value.oneCell']) ?_
      obtain ⟨wt11, et11, ht11, ct11, hxt11, -, hkt11⟩ := store_at (u := w5) [.int .i64 p, .slice t2.A t2.n t2.c, .slice t2.B t2.m t2.d, .slice none 0 0] ht10 (xt10) zt10
      rw [et11]
      clear et11
      refine hK _ _ ⟨fun _ => hxt11, ?_⟩
      clear hK K
      try simp only [Act.put, lyA, lyB, lyC, lyD, lyE, lyF]
      refine JR 11 (v := ?vt12) rfl (by kernel_rfl) rfl ?yt12 hxt11 ?rt12
      case yt12 => (intro w hw; (go_simp; with_reducible rfl))
      simp only [Act.put, lyA, lyB, lyC, lyD, lyE, lyF]
      refine J_done (by kernel_rfl) (OnlyOn.normal ?_)
      have hx := hid (hxt11)
      obtain ⟨z0, z1, z2, z3⟩ : _ ∧ _ ∧ _ ∧ _ := ⟨ct11 0 _ rfl, ct11 1 _ rfl, ct11 2 _ rfl, ct11 3 _ rfl⟩
      have H8 := hid (H5.out.ext hx.out)
      obtain ⟨a0, a1, a2, a3, a4, a5⟩ := H8.out.cells
      have f2 := H8.out.bk.free 2
      have f3 := H8.out.bk.free 3
      have f4 := H8.out.bk.free 4
      have f5 := H8.out.bk.free 5
      have hO8 := hid (hO5.out.ext hx.out)
      have m8 := hid (m6.out.ext hx.out)
      have hP8 := hid (hP.out _ _ hPo.out (fun k hk => hx.out.block (Nat.lt_of_lt_of_le (hCl.out k hk) m6.out.size)))
      clear hx hO5 m6 hPo H5
      have hb2 : ¬ t2.F b := ow_ge hO8.out (hlt.out b (.inl rfl))
      have H9 := hid (H8.out.put hO8.out hlo hb2)
      have H10 := hid (H9.out.turn 0)
      have c0 := hid (H9.out.bk.at (i := 0) rfl)
      have g0 := hid (H9.out.bk.free 0)
      have m9 := hid (((((m8.out.set (g := b) (.inl (.inl rfl)) 2 (.int .i64 p)).set (g := b) (.inl (.inl rfl)) 3 (.slice t2.A t2.n t2.c)).set (g := b) (.inl (.inl rfl)) 4 (.slice t2.B t2.m t2.d)).set (g := b) (.inl (.inl rfl)) 5 (.slice none 0 0)).set (g := b) (.inl (.inl rfl)) 0 (.int .i32 0))
      have P9 := hid (hP.out _ (((((wt11.setCell ⟨b, 2, none⟩ (.int .i64 p)).setCell ⟨b, 3, none⟩ (.slice t2.A t2.n t2.c)).setCell ⟨b, 4, none⟩ (.slice t2.B t2.m t2.d)).setCell ⟨b, 5, none⟩ (.slice none 0 0)).setCell ⟨b, 0, none⟩ (.int .i32 0)) hP8.out (fun k hk => by
        have hkb : k ≠ b := fun e => hC.out k hk (.inl e)
        rw [(setCell_at _ b _ _).2 k hkb, (setCell_at _ b _ _).2 k hkb, (setCell_at _ b _ _).2 k hkb, (setCell_at _ b _ _).2 k hkb, (setCell_at _ b _ _).2 k hkb]))
      have hF9 := hid (fun k (hk : t2.F k) => (hO8.out.lt hk).1)
      clear H8 H9 hO8 m8 hP8
      go_wp2
      refine leaves_cons (f := 57) (args := #[.pointer (some ⟨b, 0, none⟩)]) (by simp) (by simp [go_sem]) ?_
      refine (unlock_deferred muLib ⟨b, 0, none⟩ .returning _ c0.out g0.out).mono ?_
      rintro e u' w'' ⟨rfl, rfl, rfl⟩
      exact ⟨_, results_tmp rfl _ _ _, rfl, t2, H10.out, m9.out, fun k hk => .inr (hF9.out k hk), P9.out⟩
    · go_simp
      obtain ⟨wt13, bt13, et13, gt13, ht13, ct13, hxt13, lt13⟩ := alloc_at dt [.int .i64 0, .slice none 0 0, .slice none 0 0, .slice none 0 0] 75
      simp only [et13, gt13]
      have zt13 : w5.heap.size ≤ bt13 := by rw [← gt13]; exact (xt).size
      have yt13 : dt.heap.size ≤ bt13 := by rw [← gt13]; exact Nat.le_refl _
      clear et13 gt13 ct13
      refine hK _ _ ⟨fun _ => ((xt).trans hxt13), ?_⟩
      clear hK K
      try simp only [Act.put, lyA, lyB, lyC, lyD, lyE, lyF]
      have xt13 := ((xt).trans hxt13)
      refine J_one 5 rfl (by kernel_rfl) (fun K hK => ?_)
      go_simp
      refine (hq8.out _).mono ?_
      rintro e wt14 ⟨rfl, hxt14⟩
      refine hK _ _ ⟨fun _ => ((xt13).trans hxt14), ?_⟩
      clear hK K
      try simp only [Act.put, lyA, lyB, lyC, lyD, lyE, lyF]
      replace ht13 := ht13.ext hxt14
      have xt14 := ((xt13).trans hxt14)
      refine JR 6 (v := ?vt15) rfl (by kernel_rfl) rfl ?yt15 xt14 ?rt15
      case yt15 => (intro w hw; (go_simp; with_reducible rfl))
      simp only [Act.put, lyA, lyB, lyC, lyD, lyE, lyF]
      refine JR 7 (v := ?vt16) rfl (by kernel_rfl) rfl ?yt16 xt14 ?rt16
      case yt16 => (intro w hw; (go_simp; with_reducible rfl))
      simp only [Act.put, lyA, lyB, lyC, lyD, lyE, lyF]
      refine JR 8 (v := ?vt17) rfl (by kernel_rfl) rfl ?yt17 xt14 ?rt17
      case yt17 => (intro w hw; (go_simp; with_reducible rfl))
      simp only [Act.put, lyA, lyB, lyC, lyD, lyE, lyF]
      refine J_one 10 rfl (by kernel_rfl) (fun K hK => ?_)
      refine step_store0 rfl 75 _ _ rfl bt13 [.int .i64 p, .slice t2.A t2.n t2.c, .slice t2.B t2.m t2.d, .slice none 0 0] rfl rfl ht13 (by kernel_rfl) (by first | rfl | simp [Value.oneCell']) ?_
      obtain ⟨wt18, et18, ht18, ct18, hxt18, -, hkt18⟩ := store_at (u := w5) [.int .i64 p, .slice t2.A t2.n t2.c, .slice t2.B t2.m t2.d, .slice none 0 0] ht13 (xt14) zt13
      rw [et18]
      clear et18
      refine hK _ _ ⟨fun _ => hxt18, ?_⟩
      clear hK K
      try simp only [Act.put, lyA, lyB, lyC, lyD, lyE, lyF]
      refine JR 11 (v := ?vt19) rfl (by kernel_rfl) rfl ?yt19 hxt18 ?rt19
      case yt19 => (intro w hw; (go_simp; with_reducible rfl))
      simp only [Act.put, lyA, lyB, lyC, lyD, lyE, lyF]
      refine J_done (by kernel_rfl) (OnlyOn.normal ?_)
      have hx := hid (hxt18)
      obtain ⟨z0, z1, z2, z3⟩ : _ ∧ _ ∧ _ ∧ _ := ⟨ct18 0 _ rfl, ct18 1 _ rfl, ct18 2 _ rfl, ct18 3 _ rfl⟩
      have H8 := hid (H5.out.ext hx.out)
      obtain ⟨a0, a1, a2, a3, a4, a5⟩ := H8.out.cells
      have f2 := H8.out.bk.free 2
      have f3 := H8.out.bk.free 3
      have f4 := H8.out.bk.free 4
      have f5 := H8.out.bk.free 5
      have hO8 := hid (hO5.out.ext hx.out)
      have m8 := hid (m6.out.ext hx.out)
      have hP8 := hid (hP.out _ _ hPo.out (fun k hk => hx.out.block (Nat.lt_of_lt_of_le (hCl.out k hk) m6.out.size)))
      clear hx hO5 m6 hPo H5
      have hb2 : ¬ t2.F b := ow_ge hO8.out (hlt.out b (.inl rfl))
      have H9 := hid (H8.out.put hO8.out hlo hb2)
      have H10 := hid (H9.out.turn 0)
      have c0 := hid (H9.out.bk.at (i := 0) rfl)
      have g0 := hid (H9.out.bk.free 0)
      have m9 := hid (((((m8.out.set (g := b) (.inl (.inl rfl)) 2 (.int .i64 p)).set (g := b) (.inl (.inl rfl)) 3 (.slice t2.A t2.n t2.c)).set (g := b) (.inl (.inl rfl)) 4 (.slice t2.B t2.m t2.d)).set (g := b) (.inl (.inl rfl)) 5 (.slice none 0 0)).set (g := b) (.inl (.inl rfl)) 0 (.int .i32 0))
      have P9 := hid (hP.out _ (((((wt18.setCell ⟨b, 2, none⟩ (.int .i64 p)).setCell ⟨b, 3, none⟩ (.slice t2.A t2.n t2.c)).setCell ⟨b, 4, none⟩ (.slice t2.B t2.m t2.d)).setCell ⟨b, 5, none⟩ (.slice none 0 0)).setCell ⟨b, 0, none⟩ (.int .i32 0)) hP8.out (fun k hk => by
        have hkb : k ≠ b := fun e => hC.out k hk (.inl e)
        rw [(setCell_at _ b _ _).2 k hkb, (setCell_at _ b _ _).2 k hkb, (setCell_at _ b _ _).2 k hkb, (setCell_at _ b _ _).2 k hkb, (setCell_at _ b _ _).2 k hkb]))
      have hF9 := hid (fun k (hk : t2.F k) => (hO8.out.lt hk).1)
      clear H8 H9 hO8 m8 hP8
      go_wp2
      refine leaves_cons (f := 57) (args := #[.pointer (some ⟨b, 0, none⟩)]) (by simp) (by simp [go_sem]) ?_
      refine (unlock_deferred muLib ⟨b, 0, none⟩ .returning _ c0.out g0.out).mono ?_
      rintro e u' w'' ⟨rfl, rfl, rfl⟩
      exact ⟨_, results_tmp rfl _ _ _, rfl, t2, H10.out, m9.out, fun k hk => .inr (hF9.out k hk), P9.out⟩
  · obtain rfl := hR1 he
    have he2 : (er != 0) = true := by simpa using he
    have c0 := hid (H5.out.bk.at (i := 0) rfl)
    have g0 := hid (H5.out.bk.free 0)
    have hH6 := hid (H5.out.turn 0)
    have hM6 := hid (m6.out.set (g := b) (.inl (.inl rfl)) 0 (.int .i32 0))
    have hP6 := hid (hP.out _ (w5.setCell ⟨b, 0, none⟩ (.int .i32 0)) hPo.out (fun k hk => (setCell_at w5 b 0 _).2 k (fun e => hC.out k hk (.inl e))))
    clear hR0 hR1 ka5 hO5 m6 hPo H5
    go_wp2
    refine leaves_cons (f := 57) (args := #[.pointer (some ⟨b, 0, none⟩)]) (by simp) (by simp [go_sem]) ?_
    refine (unlock_deferred muLib ⟨b, 0, none⟩ .returning _ c0.out g0.out).mono ?_
    rintro e u' w'' ⟨rfl, rfl, rfl⟩
    exact ⟨_, results_tmp rfl _ _ _, rfl, t, hH6.out, hM6.out, fun k hk => .inl hk, hP6.out⟩
theorem try84 (lo b : Nat) (p er : Int) (fs : List Fd) (rs rs' R : List Rc) (t : Tt) (C : Nat → Prop) (Post : World → Prop) (g1 g2 : Nat) (w : World) (hR0 : er = 0 → R = rs') (hR1 : er ≠ 0 → R = rs) (H : BagI w lo b 0 p fs rs t) (hE : okT p fs rs) (hC : ∀ k, C k → ¬ bF b t k)
    (hlo : lo ≤ w.heap.size) (hP : ∀ w1 w2, Post w1 → (∀ k, C k → w2.heap[k]? = w1.heap[k]?) → Post w2) (hCl : ∀ k, C k → k < w.heap.size)
    (hcl : Chg 84 [.pointer (some ⟨g1, 0, none⟩), .pointer (some ⟨g2, 0, none⟩)] w b p fs rs rs' er C Post) : Calls Tryz.prog 82 #[.pointer (some ⟨b, 0, none⟩), .func (.func 84) #[] #[.pointer (some ⟨g1, 0, none⟩), .pointer (some ⟨g2, 0, none⟩)]] w fun e w' =>
    e = .returned (.int .i64 er) ∧ ∃ t', BagI w' lo b 0 p fs R t' ∧ Mv w w' (fun k => k = b ∨ C k) ∧ (∀ k, t'.F k → t.F k ∨ w.heap.size ≤ k) ∧ Post w' := by
  have H2 := H.turn 1
  have c0 := H.bk.at (i := 0) rfl
  have f0 := H.bk.free 0
  have q := hid (bagLock_any b w c0 f0)
  have m2 := hid ((Mv.refl (w := w) (F := fun k => k = b)).set (.inl rfl) 0 (.int .i32 1))
  have hl := hE.len
  have q2 := hid (bcopied_any p t.A t.n t.c t.B t.m t.d fs.length fs rs _ H2.ow.rf H2.ow.rr (by have := H.ow.2.2.2.2.1; omega) (by have := H.ow.2.2.2.1; omega) hl.1 (by omega) hE.wid)
  have H2 := hid H2
  obtain ⟨a0, a1, a2, a3, a4, a5⟩ := H2.out.cells
  have hlt := hid (fun k (hk : bF b t k) => (H.lt hk).2)
  have hbn := hid (H.nb)
  have hC := hid hC
  have hP := hid hP
  have hCl := hid hCl
  have en : ∀ (a : Value) (w : World), (callFunc 84 #[a, .pointer (some ⟨g1, 0, none⟩), .pointer (some ⟨g2, 0, none⟩)]).run Tryz.prog w = .ok (.enter 84 #[a, .pointer (some ⟨g1, 0, none⟩), .pointer (some ⟨g2, 0, none⟩)]) w := fun a w => by kernel_rfl
  unfold Chg at hcl
  have hcl := hid hcl
  clear H c0 f0
  unfold tb at q2
  go_enter_defers Tryz.func82, Tryz.ntmps82
  go_upto_region 1 with fail
  go_wp2_with fail
  refine q.out.mono ?_
  rintro e w2 ⟨rfl, rfl⟩
  clear q
  have hws : w.heap.size ≤ (w.setCell ⟨b, 0, none⟩ (.int .i32 1)).heap.size := m2.out.size
  generalize w.setCell ⟨b, 0, none⟩ (.int .i32 1) = w2 at *
  go_wp2_with fail
  refine q2.out.mono ?_
  rintro e w3 ⟨A1, d1, B1, d2, rfl, hO, hx3⟩
  clear q2 a0 a1 a2 a3 a4 a5
  go_upto_region 5 with fail
  obtain ⟨w4, a, e4, h4, s4, ka, x4⟩ := newB w3 [.int .i64 p, .slice A1 t.n d1, .slice B1 t.m d2] 25
  simp only [e4.out, h4.out]
  obtain ⟨rr, hO⟩ := hO.tt
  have hO4 := (hO.lo' hws).ext x4
  have ha : w.heap.size ≤ a := by have := h4.out; have := hx3.size; omega
  have hna : ¬ (⟨A1, t.n, d1, B1, t.m, d2, rr⟩ : Tt).F a := fun e => by have := (hO.lt e).2; have := h4.out; omega
  have hab : a ≠ b := by have := hlt.out b (.inl rfl); omega
  have m4 := hid ((m2.out.ext hx3).ext x4)
  have hq := hid (hcl.out w4 a _ m4.out ka hO4 ha hna)
  have H4 := hid ((H2.out.ext hx3).ext x4)
  have hw24 := hid (hx3.trans x4)
  have h1F := hid (fun k (hk : (⟨A1, t.n, d1, B1, t.m, d2, rr⟩ : Tt).F k) => (hO.lt hk).1)
  generalize (⟨A1, t.n, d1, B1, t.m, d2, rr⟩ : Tt) = t1 at *
  clear e4 h4 s4 ka hO hO4 hx3 x4 hcl H2 m2
  go_wp2_with fail
  refine hq.out.mono ?_
  rintro e w5 ⟨rfl, t2, ka5, hO5, hna5, m5, hPo⟩
  clear hq
  have H5 := hid (H4.out.keep (fun k hk => m5.at (H4.out.lt hk).2 (fun e => by
    have hk2 := hlt.out k hk
    rcases e with e | e | e
    · omega
    · have := h1F.out k e; omega
    · exact hC.out k e hk)))
  have m6 : Hid (Mv w w5 (fun k => k = b ∨ C k)) := hid ((m4.out.mono (fun k e => .inl e)).trans m5 (fun k hk => by
    rcases hk with e | e | e
    · exact .inr (by omega)
    · exact .inr (by have := h1F.out k e; omega)
    · exact .inl (.inr e)))
  have hPo := hid hPo
  have hO5 := hid hO5
  have ka5 := hid ka5
  have hna5 := hid hna5
  clear H4 m4 m5 hw24
  by_cases he : er = 0
  · subst he
    obtain rfl := hR0 rfl
    clear hR0 hR1
    obtain ⟨v0, v1, v2⟩ := ka5.out.c3
    obtain ⟨a0, a1, a2, a3, a4, a5⟩ := H5.out.cells
    have hq8 := hid (fun w => changed_any p t t2 w)
    unfold stV tb at hq8
    go_upto_region 8 with fail
    have xt := (Ext.refl w5).drew_right
    refine region_J (fun w' => Ext w5 w') 12 (by kernel_rfl) ?_
    generalize w5.drew = dt at xt ⊢
    refine JR 0 (v := ?vt1) rfl (by kernel_rfl) rfl ?yt1 xt ?rt1
    case yt1 => (intro w hw; (go_simp; with_reducible rfl))
    simp only [Act.put, lyA, lyB, lyC, lyD, lyE, lyF]
    refine JR 1 (v := ?vt2) rfl (by kernel_rfl) rfl ?yt2 xt ?rt2
    case yt2 => (intro w hw; (go_simp; with_reducible rfl))
    simp only [Act.put, lyA, lyB, lyC, lyD, lyE, lyF]
    refine JR 2 (v := ?vt3) rfl (by kernel_rfl) rfl ?yt3 xt ?rt3
    case yt3 => (intro w hw; (go_simp; with_reducible rfl))
    simp only [Act.put, lyA, lyB, lyC, lyD, lyE, lyF]
    refine JR 3 (v := ?vt4) rfl (by kernel_rfl) rfl ?yt4 xt ?rt4
    case yt4 => (intro w hw; obtain ⟨v0, v1, v2⟩ := (ka5.out.ext hw).c3; obtain ⟨a0, a1, a2, a3, a4, a5⟩ := (H5.out.ext hw).cells; (go_simp; with_reducible rfl))
    simp only [Act.put, lyA, lyB, lyC, lyD, lyE, lyF]
    refine JR 4 (v := ?vt5) rfl (by kernel_rfl) rfl ?yt5 xt ?rt5
    case yt5 => (intro w hw; obtain ⟨v0, v1, v2⟩ := (ka5.out.ext hw).c3; obtain ⟨a0, a1, a2, a3, a4, a5⟩ := (H5.out.ext hw).cells; (go_simp; with_reducible rfl))
    simp only [Act.put, lyA, lyB, lyC, lyD, lyE, lyF]
    refine J_two 5 9 rfl rfl (by kernel_rfl) (fun K hK => ?_) (fun K hK => ?_)
    · go_simp
      refine (hq8.out _).mono ?_
      rintro e wt6 ⟨rfl, hxt6⟩
      refine hK _ _ ⟨fun _ => ((xt).trans hxt6), ?_⟩
      clear hK K
      try simp only [Act.put, lyA, lyB, lyC, lyD, lyE, lyF]
      have xt6 := ((xt).trans hxt6)
      refine JR 6 (v := ?vt7) rfl (by kernel_rfl) rfl ?yt7 xt6 ?rt7
      case yt7 => (intro w hw; (go_simp; with_reducible rfl))
      simp only [Act.put, lyA, lyB, lyC, lyD, lyE, lyF]
      refine JR 7 (v := ?vt8) rfl (by kernel_rfl) rfl ?yt8 xt6 ?rt8
      case yt8 => (intro w hw; (go_simp; with_reducible rfl))
      simp only [Act.put, lyA, lyB, lyC, lyD, lyE, lyF]
      refine JR 8 (v := ?vt9) rfl (by kernel_rfl) rfl ?yt9 xt6 ?rt9
      case yt9 => (intro w hw; (go_simp; with_reducible rfl))
      simp only [Act.put, lyA, lyB, lyC, lyD, lyE, lyF]
      refine J_one 9 rfl (by kernel_rfl) (fun K hK => ?_)
      go_simp
      obtain ⟨wt10, bt10, et10, gt10, ht10, ct10, hxt10, lt10⟩ := alloc_at wt6 [.int .i64 0, .slice none 0 0, .slice none 0 0, .slice none 0 0] 75
      simp only [et10, gt10]
      have zt10 : w5.heap.size ≤ bt10 := by rw [← gt10]; exact (xt6).size
      have yt10 : wt6.heap.size ≤ bt10 := by rw [← gt10]; exact Nat.le_refl _
      clear et10 gt10 ct10
      refine hK _ _ ⟨fun _ => ((xt6).trans hxt10), ?_⟩
      clear hK K
      try simp only [Act.put, lyA, lyB, lyC, lyD, lyE, lyF]
      have xt10 := ((xt6).trans hxt10)
      refine J_one 10 rfl (by kernel_rfl) (fun K hK => ?_)
      refine step_store0 rfl 75 _ _ rfl bt10 [.int .i64 p, .slice t2.A t2.n t2.c, .slice t2.B t2.m t2.d, .slice none 0 0] rfl rfl ht10 (by kernel_rfl) (by first | rfl | simp [Value.oneCell']) ?_
      obtain ⟨wt11, et11, ht11, ct11, hxt11, -, hkt11⟩ := store_at (u := w5) [.int .i64 p, .slice t2.A t2.n t2.c, .slice t2.B t2.m t2.d, .slice none 0 0] ht10 (xt10) zt10
      rw [et11]
      clear et11
      refine hK _ _ ⟨fun _ => hxt11, ?_⟩
      clear hK K
      try simp only [Act.put, lyA, lyB, lyC, lyD, lyE, lyF]
      refine JR 11 (v := ?vt12) rfl (by kernel_rfl) rfl ?yt12 hxt11 ?rt12
      case yt12 => (intro w hw; (go_simp; with_reducible rfl))
      simp only [Act.put, lyA, lyB, lyC, lyD, lyE, lyF]
      refine J_done (by kernel_rfl) (OnlyOn.normal ?_)
      have hx := hid (hxt11)
      obtain ⟨z0, z1, z2, z3⟩ : _ ∧ _ ∧ _ ∧ _ := ⟨ct11 0 _ rfl, ct11 1 _ rfl, ct11 2 _ rfl, ct11 3 _ rfl⟩
      have H8 := hid (H5.out.ext hx.out)
      obtain ⟨a0, a1, a2, a3, a4, a5⟩ := H8.out.cells
      have f2 := H8.out.bk.free 2
      have f3 := H8.out.bk.free 3
      have f4 := H8.out.bk.free 4
      have f5 := H8.out.bk.free 5
      have hO8 := hid (hO5.out.ext hx.out)
      have m8 := hid (m6.out.ext hx.out)
      have hP8 := hid (hP.out _ _ hPo.out (fun k hk => hx.out.block (Nat.lt_of_lt_of_le (hCl.out k hk) m6.out.size)))
      clear hx hO5 m6 hPo H5
      have hb2 : ¬ t2.F b := ow_ge hO8.out (hlt.out b (.inl rfl))
      have H9 := hid (H8.out.put hO8.out hlo hb2)
      have H10 := hid (H9.out.turn 0)
      have c0 := hid (H9.out.bk.at (i := 0) rfl)
      have g0 := hid (H9.out.bk.free 0)
      have m9 := hid (((((m8.out.set (g := b) (.inl (.inl rfl)) 2 (.int .i64 p)).set (g := b) (.inl (.inl rfl)) 3 (.slice t2.A t2.n t2.c)).set (g := b) (.inl (.inl rfl)) 4 (.slice t2.B t2.m t2.d)).set (g := b) (.inl (.inl rfl)) 5 (.slice none 0 0)).set (g := b) (.inl (.inl rfl)) 0 (.int .i32 0))
      have P9 := hid (hP.out _ (((((wt11.setCell ⟨b, 2, none⟩ (.int .i64 p)).setCell ⟨b, 3, none⟩ (.slice t2.A t2.n t2.c)).setCell ⟨b, 4, none⟩ (.slice t2.B t2.m t2.d)).setCell ⟨b, 5, none⟩ (.slice none 0 0)).setCell ⟨b, 0, none⟩ (.int .i32 0)) hP8.out (fun k hk => by
        have hkb : k ≠ b := fun e => hC.out k hk (.inl e)
        rw [(setCell_at _ b _ _).2 k hkb, (setCell_at _ b _ _).2 k hkb, (setCell_at _ b _ _).2 k hkb, (setCell_at _ b _ _).2 k hkb, (setCell_at _ b _ _).2 k hkb]))
      have hF9 := hid (fun k (hk : t2.F k) => (hO8.out.lt hk).1)
      clear H8 H9 hO8 m8 hP8
      go_wp2
      refine leaves_cons (f := 57) (args := #[.pointer (some ⟨b, 0, none⟩)]) (by simp) (by simp [go_sem]) ?_
      refine (unlock_deferred muLib ⟨b, 0, none⟩ .returning _ c0.out g0.out).mono ?_
      rintro e u' w'' ⟨rfl, rfl, rfl⟩
      exact ⟨_, results_tmp rfl _ _ _, rfl, t2, H10.out, m9.out, fun k hk => .inr (hF9.out k hk), P9.out⟩
    · go_simp
      obtain ⟨wt13, bt13, et13, gt13, ht13, ct13, hxt13, lt13⟩ := alloc_at dt [.int .i64 0, .slice none 0 0, .slice none 0 0, .slice none 0 0] 75
      simp only [et13, gt13]
      have zt13 : w5.heap.size ≤ bt13 := by rw [← gt13]; exact (xt).size
      have yt13 : dt.heap.size ≤ bt13 := by rw [← gt13]; exact Nat.le_refl _
      clear et13 gt13 ct13
      refine hK _ _ ⟨fun _ => ((xt).trans hxt13), ?_⟩
      clear hK K
      try simp only [Act.put, lyA, lyB, lyC, lyD, lyE, lyF]
      have xt13 := ((xt).trans hxt13)
      refine J_one 5 rfl (by kernel_rfl) (fun K hK => ?_)
      go_simp
      refine (hq8.out _).mono ?_
      rintro e wt14 ⟨rfl, hxt14⟩
      refine hK _ _ ⟨fun _ => ((xt13).trans hxt14), ?_⟩
      clear hK K
      try simp only [Act.put, lyA, lyB, lyC, lyD, lyE, lyF]
      replace ht13 := ht13.ext hxt14
      have xt14 := ((xt13).trans hxt14)
      refine JR 6 (v := ?vt15) rfl (by kernel_rfl) rfl ?yt15 xt14 ?rt15
      case yt15 => (intro w hw; (go_simp; with_reducible rfl))
      simp only [Act.put, lyA, lyB, lyC, lyD, lyE, lyF]
      refine JR 7 (v := ?vt16) rfl (by kernel_rfl) rfl ?yt16 xt14 ?rt16
      case yt16 => (intro w hw; (go_simp; with_reducible rfl))
      simp only [Act.put, lyA, lyB, lyC, lyD, lyE, lyF]
      refine JR 8 (v := ?vt17) rfl (by kernel_rfl) rfl ?yt17 xt14 ?rt17
      case yt17 => (intro w hw; (go_simp; with_reducible rfl))
      simp only [Act.put, lyA, lyB, lyC, lyD, lyE, lyF]
      refine J_one 10 rfl (by kernel_rfl) (fun K hK => ?_)
      refine step_store0 rfl 75 _ _ rfl bt13 [.int .i64 p, .slice t2.A t2.n t2.c, .slice t2.B t2.m t2.d, .slice none 0 0] rfl rfl ht13 (by kernel_rfl) (by first | rfl | simp [Value.oneCell']) ?_
      obtain ⟨wt18, et18, ht18, ct18, hxt18, -, hkt18⟩ := store_at (u := w5) [.int .i64 p, .slice t2.A t2.n t2.c, .slice t2.B t2.m t2.d, .slice none 0 0] ht13 (xt14) zt13
      rw [et18]
      clear et18
      refine hK _ _ ⟨fun _ => hxt18, ?_⟩
      clear hK K
      try simp only [Act.put, lyA, lyB, lyC, lyD, lyE, lyF]
      refine JR 11 (v := ?vt19) rfl (by kernel_rfl) rfl ?yt19 hxt18 ?rt19
      case yt19 => (intro w hw; (go_simp; with_reducible rfl))
      simp only [Act.put, lyA, lyB, lyC, lyD, lyE, lyF]
      refine J_done (by kernel_rfl) (OnlyOn.normal ?_)
      have hx := hid (hxt18)
      obtain ⟨z0, z1, z2, z3⟩ : _ ∧ _ ∧ _ ∧ _ := ⟨ct18 0 _ rfl, ct18 1 _ rfl, ct18 2 _ rfl, ct18 3 _ rfl⟩
      have H8 := hid (H5.out.ext hx.out)
      obtain ⟨a0, a1, a2, a3, a4, a5⟩ := H8.out.cells
      have f2 := H8.out.bk.free 2
      have f3 := H8.out.bk.free 3
      have f4 := H8.out.bk.free 4
      have f5 := H8.out.bk.free 5
      have hO8 := hid (hO5.out.ext hx.out)
      have m8 := hid (m6.out.ext hx.out)
      have hP8 := hid (hP.out _ _ hPo.out (fun k hk => hx.out.block (Nat.lt_of_lt_of_le (hCl.out k hk) m6.out.size)))
      clear hx hO5 m6 hPo H5
      have hb2 : ¬ t2.F b := ow_ge hO8.out (hlt.out b (.inl rfl))
      have H9 := hid (H8.out.put hO8.out hlo hb2)
      have H10 := hid (H9.out.turn 0)
      have c0 := hid (H9.out.bk.at (i := 0) rfl)
      have g0 := hid (H9.out.bk.free 0)
      have m9 := hid (((((m8.out.set (g := b) (.inl (.inl rfl)) 2 (.int .i64 p)).set (g := b) (.inl (.inl rfl)) 3 (.slice t2.A t2.n t2.c)).set (g := b) (.inl (.inl rfl)) 4 (.slice t2.B t2.m t2.d)).set (g := b) (.inl (.inl rfl)) 5 (.slice none 0 0)).set (g := b) (.inl (.inl rfl)) 0 (.int .i32 0))
      have P9 := hid (hP.out _ (((((wt18.setCell ⟨b, 2, none⟩ (.int .i64 p)).setCell ⟨b, 3, none⟩ (.slice t2.A t2.n t2.c)).setCell ⟨b, 4, none⟩ (.slice t2.B t2.m t2.d)).setCell ⟨b, 5, none⟩ (.slice none 0 0)).setCell ⟨b, 0, none⟩ (.int .i32 0)) hP8.out (fun k hk => by
        have hkb : k ≠ b := fun e => hC.out k hk (.inl e)
        rw [(setCell_at _ b _ _).2 k hkb, (setCell_at _ b _ _).2 k hkb, (setCell_at _ b _ _).2 k hkb, (setCell_at _ b _ _).2 k hkb, (setCell_at _ b _ _).2 k hkb]))
      have hF9 := hid (fun k (hk : t2.F k) => (hO8.out.lt hk).1)
      clear H8 H9 hO8 m8 hP8
      go_wp2
      refine leaves_cons (f := 57) (args := #[.pointer (some ⟨b, 0, none⟩)]) (by simp) (by simp [go_sem]) ?_
      refine (unlock_deferred muLib ⟨b, 0, none⟩ .returning _ c0.out g0.out).mono ?_
      rintro e u' w'' ⟨rfl, rfl, rfl⟩
      exact ⟨_, results_tmp rfl _ _ _, rfl, t2, H10.out, m9.out, fun k hk => .inr (hF9.out k hk), P9.out⟩
  · obtain rfl := hR1 he
    have he2 : (er != 0) = true := by simpa using he
    have c0 := hid (H5.out.bk.at (i := 0) rfl)
    have g0 := hid (H5.out.bk.free 0)
    have hH6 := hid (H5.out.turn 0)
    have hM6 := hid (m6.out.set (g := b) (.inl (.inl rfl)) 0 (.int .i32 0))
    have hP6 := hid (hP.out _ (w5.setCell ⟨b, 0, none⟩ (.int .i32 0)) hPo.out (fun k hk => (setCell_at w5 b 0 _).2 k (fun e => hC.out k hk (.inl e))))
    clear hR0 hR1 ka5 hO5 m6 hPo H5
    go_wp2
    refine leaves_cons (f := 57) (args := #[.pointer (some ⟨b, 0, none⟩)]) (by simp) (by simp [go_sem]) ?_
    refine (unlock_deferred muLib ⟨b, 0, none⟩ .returning _ c0.out g0.out).mono ?_
    rintro e u' w'' ⟨rfl, rfl, rfl⟩
    exact ⟨_, results_tmp rfl _ _ _, rfl, t, hH6.out, hM6.out, fun k hk => .inl hk, hP6.out⟩
theorem try119 (lo b : Nat) (p er : Int) (fs : List Fd) (rs rs' R : List Rc) (t : Tt) (C : Nat → Prop) (Post : World → Prop) (g1 g2 : Nat) (w : World) (hR0 : er = 0 → R = rs') (hR1 : er ≠ 0 → R = rs) (H : BagI w lo b 0 p fs rs t) (hE : okT p fs rs) (hC : ∀ k, C k → ¬ bF b t k)
    (hlo : lo ≤ w.heap.size) (hP : ∀ w1 w2, Post w1 → (∀ k, C k → w2.heap[k]? = w1.heap[k]?) → Post w2) (hCl : ∀ k, C k → k < w.heap.size)
    (hcl : Chg 119 [.pointer (some ⟨g1, 0, none⟩), .pointer (some ⟨g2, 0, none⟩)] w b p fs rs rs' er C Post) : Calls Tryz.prog 82 #[.pointer (some ⟨b, 0, none⟩), .func (.func 119) #[] #[.pointer (some ⟨g1, 0, none⟩), .pointer (some ⟨g2, 0, none⟩)]] w fun e w' =>
    e = .returned (.int .i64 er) ∧ ∃ t', BagI w' lo b 0 p fs R t' ∧ Mv w w' (fun k => k = b ∨ C k) ∧ (∀ k, t'.F k → t.F k ∨ w.heap.size ≤ k) ∧ Post w' := by
  have H2 := H.turn 1
  have c0 := H.bk.at (i := 0) rfl
  have f0 := H.bk.free 0
  have q := hid (bagLock_any b w c0 f0)
  have m2 := hid ((Mv.refl (w := w) (F := fun k => k = b)).set (.inl rfl) 0 (.int .i32 1))
  have hl := hE.len
  have q2 := hid (bcopied_any p t.A t.n t.c t.B t.m t.d fs.length fs rs _ H2.ow.rf H2.ow.rr (by have := H.ow.2.2.2.2.1; omega) (by have := H.ow.2.2.2.1; omega) hl.1 (by omega) hE.wid)
  have H2 := hid H2
  obtain ⟨a0, a1, a2, a3, a4, a5⟩ := H2.out.cells
  have hlt := hid (fun k (hk : bF b t k) => (H.lt hk).2)
  have hbn := hid (H.nb)
  have hC := hid hC
  have hP := hid hP
  have hCl := hid hCl
  have en : ∀ (a : Value) (w : World), (callFunc 119 #[a, .pointer (some ⟨g1, 0, none⟩), .pointer (some ⟨g2, 0, none⟩)]).run Tryz.prog w = .ok (.enter 119 #[a, .pointer (some ⟨g1, 0, none⟩), .pointer (some ⟨g2, 0, none⟩)]) w := fun a w => by kernel_rfl
  unfold Chg at hcl
  have hcl := hid hcl
  clear H c0 f0
  unfold tb at q2
  go_enter_defers Tryz.func82, Tryz.ntmps82
  go_upto_region 1 with fail
  go_wp2_with fail
  refine q.out.mono ?_
  rintro e w2 ⟨rfl, rfl⟩
  clear q
  have hws : w.heap.size ≤ (w.setCell ⟨b, 0, none⟩ (.int .i32 1)).heap.size := m2.out.size
  generalize w.setCell ⟨b, 0, none⟩ (.int .i32 1) = w2 at *
  go_wp2_with fail
  refine q2.out.mono ?_
  rintro e w3 ⟨A1, d1, B1, d2, rfl, hO, hx3⟩
  clear q2 a0 a1 a2 a3 a4 a5
  go_upto_region 5 with fail
  obtain ⟨w4, a, e4, h4, s4, ka, x4⟩ := newB w3 [.int .i64 p, .slice A1 t.n d1, .slice B1 t.m d2] 25
  simp only [e4.out, h4.out]
  obtain ⟨rr, hO⟩ := hO.tt
  have hO4 := (hO.lo' hws).ext x4
  have ha : w.heap.size ≤ a := by have := h4.out; have := hx3.size; omega
  have hna : ¬ (⟨A1, t.n, d1, B1, t.m, d2, rr⟩ : Tt).F a := fun e => by have := (hO.lt e).2; have := h4.out; omega
  have hab : a ≠ b := by have := hlt.out b (.inl rfl); omega
  have m4 := hid ((m2.out.ext hx3).ext x4)
  have hq := hid (hcl.out w4 a _ m4.out ka hO4 ha hna)
  have H4 := hid ((H2.out.ext hx3).ext x4)
  have hw24 := hid (hx3.trans x4)
  have h1F := hid (fun k (hk : (⟨A1, t.n, d1, B1, t.m, d2, rr⟩ : Tt).F k) => (hO.lt hk).1)
  generalize (⟨A1, t.n, d1, B1, t.m, d2, rr⟩ : Tt) = t1 at *
  clear e4 h4 s4 ka hO hO4 hx3 x4 hcl H2 m2
  go_wp2_with fail
  refine hq.out.mono ?_
  rintro e w5 ⟨rfl, t2, ka5, hO5, hna5, m5, hPo⟩
  clear hq
  have H5 := hid (H4.out.keep (fun k hk => m5.at (H4.out.lt hk).2 (fun e => by
    have hk2 := hlt.out k hk
    rcases e with e | e | e
    · omega
    · have := h1F.out k e; omega
    · exact hC.out k e hk)))
  have m6 : Hid (Mv w w5 (fun k => k = b ∨ C k)) := hid ((m4.out.mono (fun k e => .inl e)).trans m5 (fun k hk => by
    rcases hk with e | e | e
    · exact .inr (by omega)
    · exact .inr (by have := h1F.out k e; omega)
    · exact .inl (.inr e)))
  have hPo := hid hPo
  have hO5 := hid hO5
  have ka5 := hid ka5
  have hna5 := hid hna5
  clear H4 m4 m5 hw24
  by_cases he : er = 0
  · subst he
    obtain rfl := hR0 rfl
    clear hR0 hR1
    obtain ⟨v0, v1, v2⟩ := ka5.out.c3
    obtain ⟨a0, a1, a2, a3, a4, a5⟩ := H5.out.cells
    have hq8 := hid (fun w => changed_any p t t2 w)
    unfold stV tb at hq8
    go_upto_region 8 with fail
    have xt := (Ext.refl w5).drew_right
    refine region_J (fun w' => Ext w5 w') 12 (by kernel_rfl) ?_
    generalize w5.drew = dt at xt ⊢
    refine JR 0 (v := ?vt1) rfl (by kernel_rfl) rfl ?yt1 xt ?rt1
    case yt1 => (intro w hw; (go_simp; with_reducible rfl))
    simp only [Act.put, lyA, lyB, lyC, lyD, lyE, lyF]
    refine JR 1 (v := ?vt2) rfl (by kernel_rfl) rfl ?yt2 xt ?rt2
    case yt2 => (intro w hw; (go_simp; with_reducible rfl))
    simp only [Act.put, lyA, lyB, lyC, lyD, lyE, lyF]
    refine JR 2 (v := ?vt3) rfl (by kernel_rfl) rfl ?yt3 xt ?rt3
    case yt3 => (intro w hw; (go_simp; with_reducible rfl))
    simp only [Act.put, lyA, lyB, lyC, lyD, lyE, lyF]
    refine JR 3 (v := ?vt4) rfl (by kernel_rfl) rfl ?yt4 xt ?rt4
    case yt4 => (intro w hw; obtain ⟨v0, v1, v2⟩ := (ka5.out.ext hw).c3; obtain ⟨a0, a1, a2, a3, a4, a5⟩ := (H5.out.ext hw).cells; (go_simp; with_reducible rfl))
    simp only [Act.put, lyA, lyB, lyC, lyD, lyE, lyF]
    refine JR 4 (v := ?vt5) rfl (by kernel_rfl) rfl ?yt5 xt ?rt5
    case yt5 => (intro w hw; obtain ⟨v0, v1, v2⟩ := (ka5.out.ext hw).c3; obtain ⟨a0, a1, a2, a3, a4, a5⟩ := (H5.out.ext hw).cells; (go_simp; with_reducible rfl))
    simp only [Act.put, lyA, lyB, lyC, lyD, lyE, lyF]
    refine J_two 5 9 rfl rfl (by kernel_rfl) (fun K hK => ?_) (fun K hK => ?_)
    · go_simp
      refine (hq8.out _).mono ?_
      rintro e wt6 ⟨rfl, hxt6⟩
      refine hK _ _ ⟨fun _ => ((xt).trans hxt6), ?_⟩
      clear hK K
      try simp only [Act.put, lyA, lyB, lyC, lyD, lyE, lyF]
      have xt6 := ((xt).trans hxt6)
      refine JR 6 (v := ?vt7) rfl (by kernel_rfl) rfl ?yt7 xt6 ?rt7
      case yt7 => (intro w hw; (go_simp; with_reducible rfl))
      simp only [Act.put, lyA, lyB, lyC, lyD, lyE, lyF]
      refine JR 7 (v := ?vt8) rfl (by kernel_rfl) rfl ?yt8 xt6 ?rt8
      case yt8 => (intro w hw; (go_simp; with_reducible rfl))
      simp only [Act.put, lyA, lyB, lyC, lyD, lyE, lyF]
      refine JR 8 (v := ?vt9) rfl (by kernel_rfl) rfl ?yt9 xt6 ?rt9
      case yt9 => (intro w hw; (go_simp; with_reducible rfl))
      simp only [Act.put, lyA, lyB, lyC, lyD, lyE, lyF]
      refine J_one 9 rfl (by kernel_rfl) (fun K hK => ?_)
      go_simp
      obtain ⟨wt10, bt10, et10, gt10, ht10, ct10, hxt10, lt10⟩ := alloc_at wt6 [.int .i64 0, .slice none 0 0, .slice none 0 0, .slice none 0 0] 75
      simp only [et10, gt10]
      have zt10 : w5.heap.size ≤ bt10 := by rw [← gt10]; exact (xt6).size
      have yt10 : wt6.heap.size ≤ bt10 := by rw [← gt10]; exact Nat.le_refl _
      clear et10 gt10 ct10
      refine hK _ _ ⟨fun _ => ((xt6).trans hxt10), ?_⟩
      clear hK K
      try simp only [Act.put, lyA, lyB, lyC, lyD, lyE, lyF]
      have xt10 := ((xt6).trans hxt10)
      refine J_one 10 rfl (by kernel_rfl) (fun K hK => ?_)
      refine step_store0 rfl 75 _ _ rfl bt10 [.int .i64 p, .slice t2.A t2.n t2.c, .slice t2.B t2.m t2.d, .slice none 0 0] rfl rfl ht10 (by kernel_rfl) (by first | rfl | simp [Value.oneCell']) ?_
      obtain ⟨wt11, et11, ht11, ct11, hxt11, -, hkt11⟩ := store_at (u := w5) [.int .i64 p, .slice t2.A t2.n t2.c, .slice t2.B t2.m t2.d, .slice none 0 0] ht10 (xt10) zt10
      rw [et11]
      clear et11
      refine hK _ _ ⟨fun _ => hxt11, ?_⟩
      clear hK K
      try simp only [Act.put, lyA, lyB, lyC, lyD, lyE, lyF]
      refine JR 11 (v := ?vt12) rfl (by kernel_rfl) rfl ?yt12 hxt11 ?rt12
      case yt12 => (intro w hw; (go_simp; with_reducible rfl))
      simp only [Act.put, lyA, lyB, lyC, lyD, lyE, lyF]
      refine J_done (by kernel_rfl) (OnlyOn.normal ?_)
      have hx := hid (hxt11)
      obtain ⟨z0, z1, z2, z3⟩ : _ ∧ _ ∧ _ ∧ _ := ⟨ct11 0 _ rfl, ct11 1 _ rfl, ct11 2 _ rfl, ct11 3 _ rfl⟩
      have H8 := hid (H5.out.ext hx.out)
      obtain ⟨a0, a1, a2, a3, a4, a5⟩ := H8.out.cells
      have f2 := H8.out.bk.free 2
      have f3 := H8.out.bk.free 3
      have f4 := H8.out.bk.free 4
      have f5 := H8.out.bk.free 5
      have hO8 := hid (hO5.out.ext hx.out)
      have m8 := hid (m6.out.ext hx.out)
      have hP8 := hid (hP.out _ _ hPo.out (fun k hk => hx.out.block (Nat.lt_of_lt_of_le (hCl.out k hk) m6.out.size)))
      clear hx hO5 m6 hPo H5
      have hb2 : ¬ t2.F b := ow_ge hO8.out (hlt.out b (.inl rfl))
      have H9 := hid (H8.out.put hO8.out hlo hb2)
      have H10 := hid (H9.out.turn 0)
      have c0 := hid (H9.out.bk.at (i := 0) rfl)
      have g0 := hid (H9.out.bk.free 0)
      have m9 := hid (((((m8.out.set (g := b) (.inl (.inl rfl)) 2 (.int .i64 p)).set (g := b) (.inl (.inl rfl)) 3 (.slice t2.A t2.n t2.c)).set (g := b) (.inl (.inl rfl)) 4 (.slice t2.B t2.m t2.d)).set (g := b) (.inl (.inl rfl)) 5 (.slice none 0 0)).set (g := b) (.inl (.inl rfl)) 0 (.int .i32 0))
      have P9 := hid (hP.out _ (((((wt11.setCell ⟨b, 2, none⟩ (.int .i64 p)).setCell ⟨b, 3, none⟩ (.slice t2.A t2.n t2.c)).setCell ⟨b, 4, none⟩ (.slice t2.B t2.m t2.d)).setCell ⟨b, 5, none⟩ (.slice none 0 0)).setCell ⟨b, 0, none⟩ (.int .i32 0)) hP8.out (fun k hk => by
        have hkb : k ≠ b := fun e => hC.out k hk (.inl e)
        rw [(setCell_at _ b _ _).2 k hkb, (setCell_at _ b _ _).2 k hkb, (setCell_at _ b _ _).2 k hkb, (setCell_at _ b _ _).2 k hkb, (setCell_at _ b _ _).2 k hkb]))
      have hF9 := hid (fun k (hk : t2.F k) => (hO8.out.lt hk).1)
      clear H8 H9 hO8 m8 hP8
      go_wp2
      refine leaves_cons (f := 57) (args := #[.pointer (some ⟨b, 0, none⟩)]) (by simp) (by simp [go_sem]) ?_
      refine (unlock_deferred muLib ⟨b, 0, none⟩ .returning _ c0.out g0.out).mono ?_
      rintro e u' w'' ⟨rfl, rfl, rfl⟩
      exact ⟨_, results_tmp rfl _ _ _, rfl, t2, H10.out, m9.out, fun k hk => .inr (hF9.out k hk), P9.out⟩
    · go_simp
      obtain ⟨wt13, bt13, et13, gt13, ht13, ct13, hxt13, lt13⟩ := alloc_at dt [.int .i64 0, .slice none 0 0, .slice none 0 0, .slice none 0 0] 75
      simp only [et13, gt13]
      have zt13 : w5.heap.size ≤ bt13 := by rw [← gt13]; exact (xt).size
      have yt13 : dt.heap.size ≤ bt13 := by rw [← gt13]; exact Nat.le_refl _
      clear et13 gt13 ct13
      refine hK _ _ ⟨fun _ => ((xt).trans hxt13), ?_⟩
      clear hK K
      try simp only [Act.put, lyA, lyB, lyC, lyD, lyE, lyF]
      have xt13 := ((xt).trans hxt13)
      refine J_one 5 rfl (by kernel_rfl) (fun K hK => ?_)
      go_simp
      refine (hq8.out _).mono ?_
      rintro e wt14 ⟨rfl, hxt14⟩
      refine hK _ _ ⟨fun _ => ((xt13).trans hxt14), ?_⟩
      clear hK K
      try simp only [Act.put, lyA, lyB, lyC, lyD, lyE, lyF]
      replace ht13 := ht13.ext hxt14
      have xt14 := ((xt13).trans hxt14)
      refine JR 6 (v := ?vt15) rfl (by kernel_rfl) rfl ?yt15 xt14 ?rt15
      case yt15 => (intro w hw; (go_simp; with_reducible rfl))
      simp only [Act.put, lyA, lyB, lyC, lyD, lyE, lyF]
      refine JR 7 (v := ?vt16) rfl (by kernel_rfl) rfl ?yt16 xt14 ?rt16
      case yt16 => (intro w hw; (go_simp; with_reducible rfl))
      simp only [Act.put, lyA, lyB, lyC, lyD, lyE, lyF]
      refine JR 8 (v := ?vt17) rfl (by kernel_rfl) rfl ?yt17 xt14 ?rt17
      case yt17 => (intro w hw; (go_simp; with_reducible rfl))
      simp only [Act.put, lyA, lyB, lyC, lyD, lyE, lyF]
      refine J_one 10 rfl (by kernel_rfl) (fun K hK => ?_)
      refine step_store0 rfl 75 _ _ rfl bt13 [.int .i64 p, .slice t2.A t2.n t2.c, .slice t2.B t2.m t2.d, .slice none 0 0] rfl rfl ht13 (by kernel_rfl) (by first | rfl | simp [Value.oneCell']) ?_
      obtain ⟨wt18, et18, ht18, ct18, hxt18, -, hkt18⟩ := store_at (u := w5) [.int .i64 p, .slice t2.A t2.n t2.c, .slice t2.B t2.m t2.d, .slice none 0 0] ht13 (xt14) zt13
      rw [et18]
      clear et18
      refine hK _ _ ⟨fun _ => hxt18, ?_⟩
      clear hK K
      try simp only [Act.put, lyA, lyB, lyC, lyD, lyE, lyF]
      refine JR 11 (v := ?vt19) rfl (by kernel_rfl) rfl ?yt19 hxt18 ?rt19
      case yt19 => (intro w hw; (go_simp; with_reducible rfl))
      simp only [Act.put, lyA, lyB, lyC, lyD, lyE, lyF]
      refine J_done (by kernel_rfl) (OnlyOn.normal ?_)
      have hx := hid (hxt18)
      obtain ⟨z0, z1, z2, z3⟩ : _ ∧ _ ∧ _ ∧ _ := ⟨ct18 0 _ rfl, ct18 1 _ rfl, ct18 2 _ rfl, ct18 3 _ rfl⟩
      have H8 := hid (H5.out.ext hx.out)
      obtain ⟨a0, a1, a2, a3, a4, a5⟩ := H8.out.cells
      have f2 := H8.out.bk.free 2
      have f3 := H8.out.bk.free 3
      have f4 := H8.out.bk.free 4
      have f5 := H8.out.bk.free 5
      have hO8 := hid (hO5.out.ext hx.out)
      have m8 := hid (m6.out.ext hx.out)
      have hP8 := hid (hP.out _ _ hPo.out (fun k hk => hx.out.block (Nat.lt_of_lt_of_le (hCl.out k hk) m6.out.size)))
      clear hx hO5 m6 hPo H5
      have hb2 : ¬ t2.F b := ow_ge hO8.out (hlt.out b (.inl rfl))
      have H9 := hid (H8.out.put hO8.out hlo hb2)
      have H10 := hid (H9.out.turn 0)
      have c0 := hid (H9.out.bk.at (i := 0) rfl)
      have g0 := hid (H9.out.bk.free 0)
      have m9 := hid (((((m8.out.set (g := b) (.inl (.inl rfl)) 2 (.int .i64 p)).set (g := b) (.inl (.inl rfl)) 3 (.slice t2.A t2.n t2.c)).set (g := b) (.inl (.inl rfl)) 4 (.slice t2.B t2.m t2.d)).set (g := b) (.inl (.inl rfl)) 5 (.slice none 0 0)).set (g := b) (.inl (.inl rfl)) 0 (.int .i32 0))
      have P9 := hid (hP.out _ (((((wt18.setCell ⟨b, 2, none⟩ (.int .i64 p)).setCell ⟨b, 3, none⟩ (.slice t2.A t2.n t2.c)).setCell ⟨b, 4, none⟩ (.slice t2.B t2.m t2.d)).setCell ⟨b, 5, none⟩ (.slice none 0 0)).setCell ⟨b, 0, none⟩ (.int .i32 0)) hP8.out (fun k hk => by
        have hkb : k ≠ b := fun e => hC.out k hk (.inl e)
        rw [(setCell_at _ b _ _).2 k hkb, (setCell_at _ b _ _).2 k hkb, (setCell_at _ b _ _).2 k hkb, (setCell_at _ b _ _).2 k hkb, (setCell_at _ b _ _).2 k hkb]))
      have hF9 := hid (fun k (hk : t2.F k) => (hO8.out.lt hk).1)
      clear H8 H9 hO8 m8 hP8
      go_wp2
      refine leaves_cons (f := 57) (args := #[.pointer (some ⟨b, 0, none⟩)]) (by simp) (by simp [go_sem]) ?_
      refine (unlock_deferred muLib ⟨b, 0, none⟩ .returning _ c0.out g0.out).mono ?_
      rintro e u' w'' ⟨rfl, rfl, rfl⟩
      exact ⟨_, results_tmp rfl _ _ _, rfl, t2, H10.out, m9.out, fun k hk => .inr (hF9.out k hk), P9.out⟩
  · obtain rfl := hR1 he
    have he2 : (er != 0) = true := by simpa using he
    have c0 := hid (H5.out.bk.at (i := 0) rfl)
    have g0 := hid (H5.out.bk.free 0)
    have hH6 := hid (H5.out.turn 0)
    have hM6 := hid (m6.out.set (g := b) (.inl (.inl rfl)) 0 (.int .i32 0))
    have hP6 := hid (hP.out _ (w5.setCell ⟨b, 0, none⟩ (.int .i32 0)) hPo.out (fun k hk => (setCell_at w5 b 0 _).2 k (fun e => hC.out k hk (.inl e))))
    clear hR0 hR1 ka5 hO5 m6 hPo H5
    go_wp2
    refine leaves_cons (f := 57) (args := #[.pointer (some ⟨b, 0, none⟩)]) (by simp) (by simp [go_sem]) ?_
    refine (unlock_deferred muLib ⟨b, 0, none⟩ .returning _ c0.out g0.out).mono ?_
    rintro e u' w'' ⟨rfl, rfl, rfl⟩
    exact ⟨_, results_tmp rfl _ _ _, rfl, t, hH6.out, hM6.out, fun k hk => .inl hk, hP6.out⟩
open Go.RowKit Go.Shelf Go.MuLone
theorem OwTt.turnG {w : World} {lo wd : Nat} {fs : List Fd} {rs : List Rc} {t : Tt} (h : OwTt w lo wd fs rs t) {i g : Nat} (hi : i < rs.length) (hg : t.B = some ⟨g, 0, none⟩) (q : Bool) :
    OwTt (w.setCell ⟨g, i * 2, none⟩ (.bool q)) lo wd fs (rs.set i ⟨q, (rth rs i).v⟩) ⟨t.A, t.n, t.c, t.B, t.m, t.d, t.rr.set i ⟨q, (rrth t.rr i).A, (rrth t.rr i).n, (rrth t.rr i).c⟩⟩ := by
  obtain ⟨h1, h2, h3, h4, h5, h6⟩ := h
  have hgb : (Value.slice t.B t.m t.d).ownBlock = some g := by rw [hg]; rfl
  have h2' := h2
  rw [hg] at h2
  have k := h2.turnG (q := q) h3 (by omega) hi
  rw [← hg] at k
  refine ⟨own_same h1 (fun f hf => (setCell_at w g _ _).2 f (fun e => (h6 f hf).1 (by rw [hgb, e]))), k, by simpa using h3, by simpa using h4, h5, fun f hf => ⟨(h6 f hf).1, fun j hj => ?_⟩⟩
  rw [List.length_set] at hj
  show rb (rrth (t.rr.set i _) j) ≠ f
  by_cases e : j = i
  · subst e; rw [rrth_set_same (by omega)]; exact (h6 f hf).2 j hj
  · rw [rrth_set_ne e]; exact (h6 f hf).2 j hj
theorem OwTt.turnG_F {t : Tt} {i : Nat} {q : Bool} {k : Nat} (h : (⟨t.A, t.n, t.c, t.B, t.m, t.d, t.rr.set i ⟨q, (rrth t.rr i).A, (rrth t.rr i).n, (rrth t.rr i).c⟩⟩ : Tt).F k) : t.F k := by
  rcases h with e | e | ⟨j, hj, e⟩
  · exact .inl e
  · exact .inr (.inl e)
  · simp only [List.length_set] at hj
    refine .inr (.inr ⟨j, hj, ?_⟩)
    by_cases e2 : j = i
    · subst e2
      simp only at e
      rw [rrth_set_same hj] at e; exact e
    · simp only at e
      rw [rrth_set_ne e2] at e; exact e
theorem chg83 (b g1 g2 i : Nat) (p : Int) (q : Bool) (fs : List Fd) (rs : List Rc) (w : World) (hE : okT p fs rs) (hi : i < rs.length) (h1 : w.cell? ⟨g1, 0, none⟩ = some (.int .i64 ((i : Int) + 1))) (h2 : w.cell? ⟨g2, 0, none⟩ = some (.bool q)) (n1 : g1 ≠ b) (n2 : g2 ≠ b) :
    Chg 83 [.pointer (some ⟨g1, 0, none⟩), .pointer (some ⟨g2, 0, none⟩)] w b p fs rs (rs.set i ⟨q, (rth rs i).v⟩) 0 (fun _ => False) (fun _ => True) := by
  intro w1 a t1 hm ka ho hla hna
  have l1 := World.block_lt_of_cell? _ _ h1
  have l2 := World.block_lt_of_cell? _ _ h2
  have c1 := (World.cell?_of_block (hm.at l1 n1)).trans h1
  have c2 := (World.cell?_of_block (hm.at l2 n2)).trans h2
  obtain ⟨v0, v1, v2⟩ := ka.c3
  have hl := hE.len
  have em := ho.2.2.2.1
  rw [em] at v2
  have i1 : decide ((i : Int) + 1 < 1) = false := by simp; omega
  have i2 : decide ((rs.length : Int) < (i : Int) + 1) = false := by simp; omega
  have i3 := IntWalk.i64_in ((i : Int) + 1 - 1) (by omega)
  have i4 := IntWalk.i64_in (i : Int) (by omega)
  have i5 : 0 ≤ (i : Int) ∧ (i : Int) < rs.length := by omega
  have ho := hid ho
  have c1' := hid c1
  have c2' := hid c2
  clear hm h1 h2
  show Calls Tryz.prog 83 #[.pointer (some ⟨a, 0, none⟩), .pointer (some ⟨g1, 0, none⟩), .pointer (some ⟨g2, 0, none⟩)] w1 _
  go_enter Tryz.func83, Tryz.ntmps83
  go_upto_region 1 with fail
  go_quiet (fail)
  go_wp2_with fail
  have hd := hid ((Ext.refl w1).drewN_right nq)
  generalize w1.drewN nq = w2 at *
  have ho := ho.out.ext hd.out
  have ka := hid (ka.ext hd.out)
  obtain ⟨g, eB, hg1, hg2, r0, r1, hv⟩ := ho.at_ hi
  have hfree : w2.frozen? ⟨g, i * 2, none⟩ = false := by
    have hr := ho.2.1.1
    rw [ho.2.2.1, eB] at hr
    exact ((row_there hr (o := i * 2) (s := 1) (by omega)) 0 (by omega)).2
  have c1 := hid (hd.out.cell c1'.out)
  have c2 := hid (hd.out.cell c2'.out)
  clear c1' c2' v0 v1 v2
  rw [eB]
  have ho := hid ho
  have hfree := hid hfree
  have r0 := hid r0
  have xm := (Ext.refl w2).drew_right
  refine region_J (fun w' => Ext w2 w') 9 (by kernel_rfl) ?_
  generalize w2.drew = dm at xm ⊢
  refine JW 0 (v := ?vm1) rfl (by kernel_rfl) rfl ?ym1 xm ?rm1
  case ym1 => (intro w hw; (go_simp; with_reducible rfl))
  simp only [Act.put, lyA, lyB, lyC, lyD, lyE, lyF]
  refine JW 1 (v := ?vm2) rfl (by kernel_rfl) rfl ?ym2 xm ?rm2
  case ym2 => (intro w hw; (go_simp; with_reducible rfl))
  simp only [Act.put, lyA, lyB, lyC, lyD, lyE, lyF]
  refine JW 2 (v := ?vm3) rfl (by kernel_rfl) rfl ?ym3 xm ?rm3
  case ym3 => (intro w hw; (go_simp; with_reducible rfl))
  simp only [Act.put, lyA, lyB, lyC, lyD, lyE, lyF]
  refine JW 3 (v := ?vm4) rfl (by kernel_rfl) rfl ?ym4 xm ?rm4
  case ym4 => (intro w hw; obtain ⟨v0, v1, v2⟩ := (ka.out.ext hw).c3; have c1 := hw.cell c1.out; have c2 := hw.cell c2.out; rw [em, eB] at v2; (go_simp; with_reducible rfl))
  simp only [Act.put, lyA, lyB, lyC, lyD, lyE, lyF]
  refine JW 4 (v := ?vm5) rfl (by kernel_rfl) rfl ?ym5 xm ?rm5
  case ym5 => (intro w hw; obtain ⟨v0, v1, v2⟩ := (ka.out.ext hw).c3; have c1 := hw.cell c1.out; have c2 := hw.cell c2.out; rw [em, eB] at v2; (go_simp; with_reducible rfl))
  simp only [Act.put, lyA, lyB, lyC, lyD, lyE, lyF]
  refine JW 5 (v := ?vm6) rfl (by kernel_rfl) rfl ?ym6 xm ?rm6
  case ym6 => (intro w hw; (go_simp; with_reducible rfl))
  simp only [Act.put, lyA, lyB, lyC, lyD, lyE, lyF]
  refine JW 6 (v := ?vm7) rfl (by kernel_rfl) rfl ?ym7 xm ?rm7
  case ym7 => (intro w hw; obtain ⟨v0, v1, v2⟩ := (ka.out.ext hw).c3; have c1 := hw.cell c1.out; have c2 := hw.cell c2.out; rw [em, eB] at v2; (go_simp; with_reducible rfl))
  simp only [Act.put, lyA, lyB, lyC, lyD, lyE, lyF]
  refine J_one 7 rfl (by kernel_rfl) (fun K hK => ?_)
  go_simp
  refine hK _ _ ⟨fun _ => xm, ?_⟩
  clear hK K
  try simp only [Act.put, lyA, lyB, lyC, lyD, lyE, lyF]
  refine JW 8 (v := ?vm9) rfl (by kernel_rfl) rfl ?ym9 xm ?rm9
  case ym9 => (intro w hw; (go_simp; with_reducible rfl))
  simp only [Act.put, lyA, lyB, lyC, lyD, lyE, lyF]
  refine J_one 9 rfl (by kernel_rfl) (fun K hK => ?_)
  have hxm10 := xm
  obtain ⟨g9, eB9, hg19, hg29, q0, q1, hv9⟩ := (ho.out.ext hxm10).at_ hi
  obtain rfl : g9 = g := by rw [eB] at eB9; injection eB9 with e; injection e with e; exact e.symm
  have hfr := (hxm10.frozen (p := ⟨g9, i * 2, none⟩) hg2).trans hfree.out
  have ho2 := hid ((ho.out.ext hxm10).turnG hi eB q)
  have hag : a ≠ g9 := fun e => hna (.inr (.inl (by rw [eB, e]; rfl)))
  have ka2 := hid ((ka.out.ext hxm10).other hag (i * 2) (.bool q))
  have hm2 := hid ((Mv.of (F := fun k => k = a ∨ t1.F k ∨ False) (hd.out.trans hxm10)).set (g := g9) (.inl (.inr (.inl (.inr (.inl (by rw [eB]; rfl)))))) (i * 2) (.bool q))
  have hna2 := hid (fun h => hna (OwTt.turnG_F (t := t1) (i := i) (q := q) (k := a) h))
  go_simp
  refine hK _ _ ⟨fun h => absurd rfl h, ?_⟩
  clear hK K
  try simp only [Act.put, lyA, lyB, lyC, lyD, lyE, lyF]
  refine J_done (by kernel_rfl) (OnlyOn.normal ?_)
  go_wp2
  go_ret
  exact ⟨rfl, (⟨t1.A, t1.n, t1.c, t1.B, t1.m, t1.d, t1.rr.set i ⟨q, (rrth t1.rr i).A, (rrth t1.rr i).n, (rrth t1.rr i).c⟩⟩ : Tt), ka2.out, ho2.out, hna2.out, hm2.out, trivial⟩
theorem vtE_one {p : Int} {fs : List Fd} {rs : List Rc} {x : Rc} (h : okT p fs rs) (hx : recE fs p x = 0) : vtE p fs [x] = 0 := by
  obtain ⟨h1, h2, h3, h4⟩ := okT_iff.1 h
  exact okT_iff.2 ⟨h1, h2, by simp, fun i hi => by obtain rfl : i = 0 := by simpa using hi
                                                   exact hx⟩
def BagTo (w w' : World) (lo b : Nat) (p : Int) (fs : List Fd) (rs : List Rc) (t : Tt) : Prop := ∃ t', BagI w' lo b 0 p fs rs t' ∧ Mv w w' (fun k => k = b) ∧ ∀ k, t'.F k → t.F k ∨ w.heap.size ≤ k
theorem bagMark_any (lo b i : Nat) (p : Int) (q : Bool) (fs : List Fd) (rs : List Rc) (t : Tt) (w : World) (H : BagI w lo b 0 p fs rs t) (hlo : lo ≤ w.heap.size) (hE : okT p fs rs) (hi : i < rs.length) :
    Calls Tryz.prog 43 #[.pointer (some ⟨b, 0, none⟩), .int .i64 ((i : Int) + 1), .bool q] w fun e w' => e = .returned (.int .i64 0) ∧ BagTo w w' lo b p fs (rs.set i ⟨q, (rth rs i).v⟩) t := by
  obtain ⟨w1, g1, e1, h1, s1, k1, x1⟩ := newB w [.int .i64 ((i : Int) + 1)] 3
  obtain ⟨w2, g2, e2, h2, s2, k2, x2⟩ := newB w1 [.bool q] 4
  have h2 := s1.out.symm.trans h2.out
  have hx := hid (x1.trans x2)
  have hbl := H.bk.lt
  have hw := h1.out
  have hT := hid (try83 lo b p 0 fs rs (rs.set i ⟨q, (rth rs i).v⟩) _ t (fun _ => False) (fun _ => True) g1 g2 w2 (fun _ => rfl) (fun h => absurd rfl h) (H.ext hx.out) hE (fun _ h => h.elim) (Nat.le_trans hlo hx.out.size) (fun _ _ _ _ => trivial) (fun _ h => h.elim)
    (chg83 b g1 g2 i p q fs rs w2 hE hi (x2.cell (k1.at rfl)) (k2.at rfl) (by omega) (by omega)))
  clear H k1 k2 x1 x2
  go_enter Tryz.func43, Tryz.ntmps43
  go_upto_region 1 with fail
  simp only [e1.out, e2.out, h1.out, h2]
  clear e1 e2 h1 h2
  go_wp2_with fail
  refine hT.out.mono ?_
  rintro e w3 ⟨rfl, t', hB, hM, hF, -⟩
  have hres : Hid (BagTo w w3 lo b p fs (rs.set i ⟨q, (rth rs i).v⟩) t) := ⟨t', hB, (Mv.of hx.out).trans hM (fun k hk => .inl (hk.elim id False.elim)), fun k hk => (hF k hk).imp id (fun h => Nat.le_trans hx.out.size h)⟩
  clear hT hB hM hF
  go_wp2
  go_ret
  exact ⟨rfl, hres.out⟩
open Go.RowKit Go.Shelf Go.MuLone
theorem OwTt.push {w w' : World} {lo wd : Nat} {fs : List Fd} {rs : List Rc} {t : Tt} {y : Rr} {x : Rc} {B' : Option Addr} {d' : Nat} (h : OwTt w lo wd fs rs t) (hy : OwV w lo wd y x) (hyn : ¬ t.F (rb y))
    (ho : w'.ownsRow lo 69 2 (.slice B' (t.m + 1) d') (t.m + 1) (rrs t.rr ++ rcl y)) (hg : w.grownBy w' (Value.slice t.B t.m t.d).ownBlock) (hv : (Value.slice B' (t.m + 1) d').ownBlock = (Value.slice t.B t.m t.d).ownBlock ∨ ∀ g, (Value.slice B' (t.m + 1) d').ownBlock = some g → w.heap.size ≤ g) :
    OwTt w' lo wd fs (rs ++ [x]) ⟨t.A, t.n, t.c, B', t.m + 1, d', t.rr ++ [y]⟩ := by
  have hlt := fun k (q : t.F k) => (h.lt q).2
  obtain ⟨h1, h2, h3, h4, h5, h6⟩ := h
  have e : t.m = t.rr.length := by omega
  have k := h2.push h3 hy (fun e => hyn (.inr (.inl e))) (fun i hi e => hyn (.inr (.inr ⟨i, by omega, e⟩))) (v' := .slice B' (t.m + 1) d') (by rw [← e]; exact ho) hg hv
  refine ⟨own_same h1 (fun f hf => hg.block f (hlt f (.inl hf)) (fun e => (h6 f hf).1 e.symm)), k, by simp [h3], by simp [h4], h5, fun f hf => ⟨fun e => ?_, fun i hi => ?_⟩⟩
  · rcases hv with hv | hv
    · rw [hv] at e; exact (h6 f hf).1 e
    · have := hv f e; have := hlt f (.inl hf); omega
  · show rb (rrth (t.rr ++ [y]) i) ≠ f
    rw [List.length_append, List.length_singleton] at hi
    by_cases e : i = rs.length
    · subst e; rw [← h3, rrth_app_eq]; exact fun e => hyn (.inl (by rw [hf, e]))
    · rw [rrth_app_lt (by omega)]; exact (h6 f hf).2 i (by omega)
theorem OwTt.push_F {t : Tt} {y : Rr} {B' : Option Addr} {d' k : Nat} {u : World} (hv : (Value.slice B' (t.m + 1) d').ownBlock = (Value.slice t.B t.m t.d).ownBlock ∨ ∀ g, (Value.slice B' (t.m + 1) d').ownBlock = some g → u.heap.size ≤ g)
    (h : (⟨t.A, t.n, t.c, B', t.m + 1, d', t.rr ++ [y]⟩ : Tt).F k) : t.F k ∨ rb y = k ∨ u.heap.size ≤ k := by
  rcases h with e | e | ⟨i, hi, e⟩
  · exact .inl (.inl e)
  · rcases hv with hv | hv
    · exact .inl (.inr (.inl (hv ▸ e)))
    · exact .inr (.inr (hv k e))
  · simp only [List.length_append, List.length_singleton] at hi e
    by_cases e2 : i = t.rr.length
    · subst e2; rw [rrth_app_eq] at e; exact .inr (.inl e)
    · rw [rrth_app_lt (by omega)] at e; exact .inl (.inr (.inr ⟨i, by omega, e⟩))
theorem chg84 (b g1 g2 : Nat) (p er : Int) (fs : List Fd) (rs rs' : List Rc) (x : Rc) (C : Option Addr) (cv : Nat) (w : World) (hE : okT p fs rs) (hx : recE fs p x = 0) (k1 : Bk w g1 [.bool x.gone, .slice C fs.length cv] 69) (hv : RdV w C fs.length cv x.v) (hvb : ¬ atB C fs.length b)
    (k2 : ∃ n : Int, Bk w g2 [.int .i64 n] 3) (n1 : g1 ≠ b) (n2 : g2 ≠ b) (n3 : g1 ≠ g2) (h0 : er = 0 → rs' = rs ++ [x] ∧ rs.length < 300) (h3 : er ≠ 0 → er = 3 ∧ rs' = rs ∧ rs.length = 300) :
    Chg 84 [.pointer (some ⟨g1, 0, none⟩), .pointer (some ⟨g2, 0, none⟩)] w b p fs rs rs' er (fun k => k = g2) (fun w' => ∃ n : Int, Bk w' g2 [.int .i64 n] 3) := by
  intro w1 a t1 hm ka ho hla hna
  obtain ⟨n0, k2⟩ := k2
  have kg1 := hid (k1.keep (hm.at k1.lt n1))
  have l1 := k1.lt
  have kg2 := hid (k2.keep (hm.at k2.lt n2))
  have hv1 := hid (hv.keepB (fun g hg => hm.at (hv.atlt hg) (fun e => hvb (e ▸ hg))))
  have hvl := hid (fun g (hg : atB C fs.length g) => hv.atlt hg)
  have hag2 : a ≠ g2 := by have := k2.lt; omega
  have hw1 := hm.size
  have hvl2 := hid k2.lt
  obtain ⟨v0, v1, v2⟩ := ka.c3
  have hl := hE.len
  have em := hid ho.2.2.2.1
  have en := hid ho.2.2.2.2.1
  have ho := hid ho
  have ka := hid ka
  have hvE := hid (vtE_one hE hx)
  have hir := hid (fun (w' : World) (hx' : Ext w1 w') => isRecord_any p t1.A t1.n t1.c t1.B t1.m t1.d fs x.gone C fs.length cv x.v w' (ho.out.rf.ext hx') (hv1.out.ext hx'))
  rw [hvE.out] at hir
  unfold tb at hir
  clear hm k1 hv k2
  show Calls Tryz.prog 84 #[.pointer (some ⟨a, 0, none⟩), .pointer (some ⟨g1, 0, none⟩), .pointer (some ⟨g2, 0, none⟩)] w1 _
  go_enter Tryz.func84, Tryz.ntmps84
  go_upto_region 1 with fail
  have xr := (Ext.refl w1).drew_right
  refine region_J (fun w' => Ext w1 w') 6 (by kernel_rfl) ?_
  generalize w1.drew = dr at xr ⊢
  refine JR 0 (v := ?vr1) rfl (by kernel_rfl) rfl ?yr1 xr ?rr1
  case yr1 => (intro w hw; (go_simp; with_reducible rfl))
  simp only [Act.put, lyA, lyB, lyC, lyD, lyE, lyF]
  refine JR 1 (v := ?vr2) rfl (by kernel_rfl) rfl ?yr2 xr ?rr2
  case yr2 => (intro w hw; (go_simp; with_reducible rfl))
  simp only [Act.put, lyA, lyB, lyC, lyD, lyE, lyF]
  refine JR 2 (v := ?vr3) rfl (by kernel_rfl) rfl ?yr3 xr ?rr3
  case yr3 => (intro w hw; obtain ⟨v0, v1, v2⟩ := (ka.out.ext hw).c3; obtain ⟨c1, c1'⟩ := (kg1.out.ext hw).c2; (go_simp; with_reducible rfl))
  simp only [Act.put, lyA, lyB, lyC, lyD, lyE, lyF]
  refine JR 3 (v := ?vr4) rfl (by kernel_rfl) rfl ?yr4 xr ?rr4
  case yr4 => (intro w hw; obtain ⟨v0, v1, v2⟩ := (ka.out.ext hw).c3; obtain ⟨c1, c1'⟩ := (kg1.out.ext hw).c2; (go_simp; with_reducible rfl))
  simp only [Act.put, lyA, lyB, lyC, lyD, lyE, lyF]
  refine J_one 4 rfl (by kernel_rfl) (fun K hK => ?_)
  go_simp
  refine (hir.out _ xr).mono ?_
  rintro e wr5 ⟨rfl, hxr5⟩
  refine hK _ _ ⟨fun _ => ((xr).trans hxr5), ?_⟩
  clear hK K
  try simp only [Act.put, lyA, lyB, lyC, lyD, lyE, lyF]
  have xr5 := ((xr).trans hxr5)
  refine JR 5 (v := ?vr6) rfl (by kernel_rfl) rfl ?yr6 xr5 ?rr6
  case yr6 => (intro w hw; (go_simp; with_reducible rfl))
  simp only [Act.put, lyA, lyB, lyC, lyD, lyE, lyF]
  refine J_done (by kernel_rfl) (OnlyOn.normal ?_)
  have hd := hid (xr5)
  generalize wr5 = w2 at *
  clear hir v0 v1 v2
  have ho2 := hid (ho.out.ext hd.out)
  have ka2 := hid (ka.out.ext hd.out)
  have k1 := hid (kg1.out.ext hd.out)
  have kg := hid (kg2.out.ext hd.out)
  have hv2 := hid (hv1.out.ext hd.out)
  clear ho ka kg1 kg2 hv1
  obtain ⟨v0, v1, v2⟩ := ka2.out.c3
  rw [em.out] at v2
  by_cases he : er = 0
  · obtain ⟨rfl, hlt⟩ := h0 he
    subst he
    clear h0 h3
    have i1 : ¬ (300 : Int) ≤ (rs.length : Int) := by omega
    go_upto_region 6 with fail
    have hob := hid (fun k (hk : (Value.slice t1.B rs.length t1.d).ownBlock = some k) => (show t1.F k ∧ w.heap.size ≤ k ∧ k < w2.heap.size from ⟨.inr (.inl (by rw [em.out]; exact hk)), ho2.out.lt (.inr (.inl (by rw [em.out]; exact hk)))⟩))
    have ha2 := ka2.out.lt
    have hxx := hid (show a ≠ g1 from by omega)
    have hO := ho2.out.ext (Ext.refl w2).drew_right
    have xa : (fun w' => Mv w2 w' (fun k => (Value.slice t1.B rs.length t1.d).ownBlock = some k)) w2.drew := (Mv.of (Ext.refl w2).drew_right)
    refine region_J (fun w' => Mv w2 w' (fun k => (Value.slice t1.B rs.length t1.d).ownBlock = some k)) 11 (by kernel_rfl) ?_
    generalize w2.drew = da at * 
    refine JW 0 (v := ?va1) rfl (by kernel_rfl) rfl ?ya1 xa ?ra1
    case ya1 => (intro w hw; (go_simp; with_reducible rfl))
    simp only [Act.put, lyA, lyB, lyC, lyD, lyE, lyF]
    refine JW 1 (v := ?va2) rfl (by kernel_rfl) rfl ?ya2 xa ?ra2
    case ya2 => (intro w hw; (go_simp; with_reducible rfl))
    simp only [Act.put, lyA, lyB, lyC, lyD, lyE, lyF]
    refine JW 2 (v := ?va3) rfl (by kernel_rfl) rfl ?ya3 xa ?ra3
    case ya3 => (intro w hw; (go_simp; with_reducible rfl))
    simp only [Act.put, lyA, lyB, lyC, lyD, lyE, lyF]
    refine JW 3 (v := ?va4) rfl (by kernel_rfl) rfl ?ya4 xa ?ra4
    case ya4 => (intro w hw; (go_simp; with_reducible rfl))
    simp only [Act.put, lyA, lyB, lyC, lyD, lyE, lyF]
    refine JW 4 (v := ?va5) rfl (by kernel_rfl) rfl ?ya5 xa ?ra5
    case ya5 => (intro w hw; obtain ⟨v0, v1, v2⟩ := (ka2.out.keep (hw.at ha2 (fun e => hna (hob.out a e).1))).c3; rw [em.out] at v2; have hng := (fun e => by have := (hob.out g1 e).2.1; omega : ¬ (Value.slice t1.B rs.length t1.d).ownBlock = some g1); obtain ⟨c2, c2'⟩ := (k1.out.keep (hw.at k1.out.lt hng)).c2; (go_simp; with_reducible rfl))
    simp only [Act.put, lyA, lyB, lyC, lyD, lyE, lyF]
    refine JW 5 (v := ?va6) rfl (by kernel_rfl) rfl ?ya6 xa ?ra6
    case ya6 => (intro w hw; obtain ⟨v0, v1, v2⟩ := (ka2.out.keep (hw.at ha2 (fun e => hna (hob.out a e).1))).c3; rw [em.out] at v2; have hng := (fun e => by have := (hob.out g1 e).2.1; omega : ¬ (Value.slice t1.B rs.length t1.d).ownBlock = some g1); obtain ⟨c2, c2'⟩ := (k1.out.keep (hw.at k1.out.lt hng)).c2; (go_simp; with_reducible rfl))
    simp only [Act.put, lyA, lyB, lyC, lyD, lyE, lyF]
    refine J_one 6 rfl (by kernel_rfl) (fun K hK => ?_)
    go_simp
    refine (own_any x.gone C fs.length cv x.v _ (hv2.out.keepB (fun g hg => (xa).at (hv2.out.atlt hg) (fun e => by have := (hob.out g e).2.1; have := hvl.out g hg; omega))) (by omega)).mono ?_
    rintro e wa7 ⟨B, d, rfl, oV, hxa7⟩
    have hlo := (xa).size
    replace hO := hO.ext hxa7
    obtain ⟨hV, hVb⟩ := OwV.mk (lo := w.heap.size) oV rfl hl.1 (by omega) (recE_len hx)
    clear oV
    refine hK _ _ ⟨fun _ => ((xa).ext hxa7), ?_⟩
    clear hK K
    try simp only [Act.put, lyA, lyB, lyC, lyD, lyE, lyF]
    have xa7 : (fun w' => Mv w2 w' (fun k => (Value.slice t1.B rs.length t1.d).ownBlock = some k)) wa7 := ((xa).ext hxa7)
    refine J_one 7 rfl (by kernel_rfl) (fun K hK => ?_)
    go_simp
    have sa8 := one_rd wa7 (rcl ⟨x.gone, B, fs.length, d⟩) 69 2 rfl
    have hxa8 := Ext.new wa7 (.cells #[.bool x.gone, .slice B fs.length d] 69)
    change Rd (wa7.alloc (.cells #[.bool x.gone, .slice B fs.length d] 69)) _ _ _ _ _ at sa8
    generalize wa7.alloc (.cells #[.bool x.gone, .slice B fs.length d] 69) = wa8 at *
    generalize wa7.heap.size = ba8 at *
    replace hO := hO.ext hxa8
    replace hV := hV.keep (w' := wa8) (hxa8.block hV.lt.2)
    refine hK _ _ ⟨fun _ => ((xa7).ext hxa8), ?_⟩
    clear hK K
    try simp only [Act.put, lyA, lyB, lyC, lyD, lyE, lyF]
    have xa8 : (fun w' => Mv w2 w' (fun k => (Value.slice t1.B rs.length t1.d).ownBlock = some k)) wa8 := ((xa7).ext hxa8)
    refine J_one 8 rfl (by kernel_rfl) (fun K hK => ?_)
    have hr0 := hO.2.1.1
    rw [hO.2.2.1, em.out] at hr0
    obtain ⟨Aa9, ca9, wa9, happa9, owna9, hga9, hgba9⟩ := app23 wa8 w.heap.size 23 (.slice t1.B rs.length t1.d) rs.length _ hr0 _ 1 1 _ sa8 (rcl_one _) (by have := (xa8).size; omega) (by omega)
    have hyn : ¬ t1.F (rb ⟨x.gone, B, fs.length, d⟩) := fun e => by have := (ho2.out.lt e).2; omega
    have hP := hid (OwTt.push (B' := Aa9) (d' := ca9) hO hV hyn (by rw [em.out]; exact owna9) (by rw [em.out]; exact hga9) (by rw [em.out]; exact hgba9))
    have hPF := hid (fun k hk => OwTt.push_F (t := t1) (y := ⟨x.gone, B, fs.length, d⟩) (B' := Aa9) (d' := ca9) (u := wa8) (k := k) (by rw [em.out]; exact hgba9) hk)
    have hws := (xa8).size
    replace happa9 := hid happa9
    clear hO hr0 owna9 sa8
    refine step_run rfl _ (ex_append _ _ _ _ rfl _ _ (by simp [Act.eval, Act.put]) (by simp [Act.eval, Act.put]) _ happa9.out) ?_
    refine hK _ _ ⟨fun _ => (xa8).grown hga9 (fun g hg => .inl hg), ?_⟩
    clear hK K
    try simp only [Act.put, lyA, lyB, lyC, lyD, lyE, lyF]
    have xa9 : (fun w' => Mv w2 w' (fun k => (Value.slice t1.B rs.length t1.d).ownBlock = some k)) wa9 := (xa8).grown hga9 (fun g hg => .inl hg)
    refine J_one 9 rfl (by kernel_rfl) (fun K hK => ?_)
    go_simp
    refine hK _ _ ⟨fun _ => xa9, ?_⟩
    clear hK K
    try simp only [Act.put, lyA, lyB, lyC, lyD, lyE, lyF]
    refine JW 10 (v := ?va11) rfl (by kernel_rfl) rfl ?ya11 xa9 ?ra11
    case ya11 => (intro w hw; (go_simp; with_reducible rfl))
    simp only [Act.put, lyA, lyB, lyC, lyD, lyE, lyF]
    refine J_one 11 rfl (by kernel_rfl) (fun K hK => ?_)
    have k6 := ka2.out.keep ((xa9).at ha2 (fun e => hna (hob.out a e).1))
    obtain ⟨z0, z1, z2⟩ := k6.c3
    have fz := k6.free 2
    have hPa : ¬ (⟨t1.A, t1.n, t1.c, Aa9, t1.m + 1, ca9, t1.rr ++ [⟨x.gone, B, fs.length, d⟩]⟩ : Tt).F a := fun e => by
      rcases hPF.out a e with e | e | e
      · exact hna e
      · omega
      · omega
    go_simp
    refine hK _ _ ⟨fun h => absurd rfl h, ?_⟩
    clear hK K
    try simp only [Act.put, lyA, lyB, lyC, lyD, lyE, lyF]
    have k7 := k6.set 2 (.slice Aa9 (rs.length + 1) ca9)
    have h7 := hP.out.keep (fun k hk => (setCell_at wa9 a 2 (.slice Aa9 (rs.length + 1) ca9)).2 k (fun e => hPa (e ▸ hk)))
    have m7 := (Mv.mono (F' := fun k => k = a ∨ t1.F k ∨ k = g2) (xa9) (fun k e => .inr (.inl (hob.out k e).1))).set (g := a) (.inl (.inl rfl)) 2 (.slice Aa9 (rs.length + 1) ca9)
    have hngg : ¬ (Value.slice t1.B rs.length t1.d).ownBlock = some g2 := fun e => by have := (hob.out g2 e).2.1; have := hvl2.out; omega
    have g7 := (kg.out.keep ((xa9).at kg.out.lt hngg)).other (Ne.symm hag2) 2 (.slice Aa9 (rs.length + 1) ca9)
    obtain ⟨u0, u1, u2⟩ := k7.c3
    have y0 := g7.c1
    have yz := g7.free 0
    have h8 := hid (h7.keep (w' := (wa9.setCell ⟨a, 2, none⟩ (.slice Aa9 (rs.length + 1) ca9)).setCell ⟨g2, 0, none⟩ (.int .i64 ((rs.length : Int) + 1))) (fun k hk => (setCell_at _ g2 0 _).2 k (fun e => by
      subst e
      rcases hPF.out k hk with e | e | e
      · have := (ho2.out.lt e).1; have := hvl2.out; omega
      · have := hvl2.out; have := hd.out.size; omega
      · have := hvl2.out; have := hd.out.size; omega)))
    have k8 := hid (k7.other hag2 0 (.int .i64 ((rs.length : Int) + 1)))
    have m8 := hid ((Mv.of hd.out).trans (m7.set (g := g2) (.inl (.inr (.inr rfl))) 0 (.int .i64 ((rs.length : Int) + 1))) (fun k hk => .inl hk))
    have g8 := hid (g7.set 0 (.int .i64 ((rs.length : Int) + 1)))
    have hPa := hid hPa
    have hap := em.out
    clear k7 h7 m7 g7 k6 z0 z1 z2 fz hP hPF hVb hlo hws
    refine J_done (by kernel_rfl) (OnlyOn.normal ?_)
    go_wp2
    go_ret
    exact ⟨rfl, (⟨t1.A, t1.n, t1.c, Aa9, t1.m + 1, ca9, t1.rr ++ [⟨x.gone, B, fs.length, d⟩]⟩ : Tt), by simp only [hap]; exact k8.out, h8.out, hPa.out, m8.out, ⟨_, g8.out⟩⟩
  · obtain ⟨rfl, rfl, hlt⟩ := h3 he
    clear h0 h3
    have i1 : (300 : Int) ≤ (rs'.length : Int) := by omega
    go_wp2
    go_ret
    exact ⟨rfl, t1, ka2.out, ho2.out, hna, Mv.of hd.out, ⟨_, kg.out⟩⟩
theorem bagAppend_any (lo b : Nat) (p er : Int) (fs : List Fd) (rs rs' : List Rc) (x : Rc) (C : Option Addr) (cv : Nat) (t : Tt) (w : World) (H : BagI w lo b 0 p fs rs t) (hlo : lo ≤ w.heap.size) (hE : okT p fs rs) (hx : recE fs p x = 0) (hv : RdV w C fs.length cv x.v) (hvb : ¬ atB C fs.length b)
    (h0 : er = 0 → rs' = rs ++ [x] ∧ rs.length < 300) (h3 : er ≠ 0 → er = 3 ∧ rs' = rs ∧ rs.length = 300) :
    Calls Tryz.prog 45 #[.pointer (some ⟨b, 0, none⟩), .agg #[.bool x.gone, .slice C fs.length cv]] w fun e w' => ∃ n : Int, e = .returned (.tuple #[.int .i64 n, .int .i64 er]) ∧ BagTo w w' lo b p fs rs' t := by
  obtain ⟨w1, g1, e1, h1, s1, k1, x1⟩ := newB w [.bool x.gone, .slice C fs.length cv] 69
  obtain ⟨w2, g2, e2, h2, s2, k2, x2⟩ := newB w1 [.int .i64 0] 3
  have h2 := s1.out.symm.trans h2.out
  have hX := hid (x1.trans x2)
  have hbl := H.bk.lt
  have hw := h1.out
  have hlt := hid (fun k (hk : bF b t k) => (H.lt hk).2)
  have hT := hid (try84 lo b p er fs rs rs' rs' t (fun k => k = g2) (fun w' => ∃ n : Int, Bk w' g2 [.int .i64 n] 3) g1 g2 w2 (fun _ => rfl) (fun h => (h3 h).2.1) (H.ext hX.out) hE (fun k h hb => by have := hlt.out k hb; omega) (Nat.le_trans hlo hX.out.size) (fun w1 w2 h hk => by obtain ⟨n, h⟩ := h; exact ⟨n, h.keep (hk g2 rfl)⟩) (fun k h => by subst h; exact k2.lt)
    (chg84 b g1 g2 p er fs rs rs' x C cv w2 hE hx (k1.ext x2) (hv.ext hX.out) hvb ⟨_, k2⟩ (by omega) (by omega) (by omega) h0 h3))
  clear H k1 k2 x1 x2 hv
  go_enter Tryz.func45, Tryz.ntmps45
  go_upto_region 2 with fail
  simp only [e1.out, e2.out, h1.out, h2]
  clear e1 e2 h1
  go_wp2_with fail
  refine hT.out.mono ?_
  rintro e w3 ⟨rfl, t', hB, hM, hF, n, kn⟩
  have hres : Hid (BagTo w w3 lo b p fs rs' t) := ⟨t', hB, (Mv.of hX.out).trans hM (fun k hk => hk.imp id (fun e => by omega)), fun k hk => (hF k hk).imp id (fun h => Nat.le_trans hX.out.size h)⟩
  have c0 := kn.c1
  clear hT hB hM hF
  by_cases he : er = 0
  · subst he
    go_wp2
    exact bodyPost_ret (v := .tuple #[.int .i64 n, .int .i64 0]) (by simp [results, Tryz.results45, go_sem]) rfl ⟨n, rfl, hres.out⟩
  · obtain rfl := (h3 he).1
    clear h0 h3
    go_wp2
    exact bodyPost_ret (v := .tuple #[.int .i64 0, .int .i64 3]) (by simp [results, Tryz.results45, go_sem]) rfl ⟨0, rfl, hres.out⟩
end Go.Proofs.YtngoebbmgpdeiaaGreatDoor
