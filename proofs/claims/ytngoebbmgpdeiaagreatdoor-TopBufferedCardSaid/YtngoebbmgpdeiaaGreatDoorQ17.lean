/-
  A desk: a record more; A log: a mark, a value; A log: a record more; an act upon it; An act upon a desk.
-/
import Derived.Test.YtngoebbmgpdeiaaGreatDoorQ16
import Derived.Test.YtngoebbmgpdeiaaGreatDoorQ8
import Derived.Test.YtngoebbmgpdeiaaGreatDoorQ15
import Derived.Test.YtngoebbmgpdeiaaGreatDoorQ7
set_option maxRecDepth 100000
set_option maxHeartbeats 40000000
set_option linter.unusedVariables false
set_option linter.unusedSimpArgs false
namespace Go.Proofs.YtngoebbmgpdeiaaGreatDoor
open Go.RowKit Go.Shelf Go.MuLone
theorem idx91_0 (v0 v1 v2 v3 v4 v5 v6 v7 v8 v9 v10 v11 v12 v13 v14 v15 : Value) (w : World) : (Instr.index 91 (.agg #[v0, v1, v2, v3, v4, v5, v6, v7, v8, v9, v10, v11, v12, v13, v14, v15]) (.int .i64 0)).run Tryz.prog w = .ok (.agg #[v0, v1, v2, v3]) w := by kernel_rfl
theorem idx91_1 (v0 v1 v2 v3 v4 v5 v6 v7 v8 v9 v10 v11 v12 v13 v14 v15 : Value) (w : World) : (Instr.index 91 (.agg #[v0, v1, v2, v3, v4, v5, v6, v7, v8, v9, v10, v11, v12, v13, v14, v15]) (.int .i64 1)).run Tryz.prog w = .ok (.agg #[v4, v5, v6, v7]) w := by kernel_rfl
theorem idx91_2 (v0 v1 v2 v3 v4 v5 v6 v7 v8 v9 v10 v11 v12 v13 v14 v15 : Value) (w : World) : (Instr.index 91 (.agg #[v0, v1, v2, v3, v4, v5, v6, v7, v8, v9, v10, v11, v12, v13, v14, v15]) (.int .i64 2)).run Tryz.prog w = .ok (.agg #[v8, v9, v10, v11]) w := by kernel_rfl
theorem idx91_3 (v0 v1 v2 v3 v4 v5 v6 v7 v8 v9 v10 v11 v12 v13 v14 v15 : Value) (w : World) : (Instr.index 91 (.agg #[v0, v1, v2, v3, v4, v5, v6, v7, v8, v9, v10, v11, v12, v13, v14, v15]) (.int .i64 3)).run Tryz.prog w = .ok (.agg #[v12, v13, v14, v15]) w := by kernel_rfl
section
variable {lo b n0 : Nat} {p : Int} {fs : List Fd} {vw : List Rc} {mode at_ : Int} {M : Dm}
theorem deskAppend_any (er : Int) (vw' : List Rc) (w : World) (H : DeskV w lo b 0 p fs vw n0 mode at_ M) (hE : okT p fs vw) (h0 : er = 0 → vw' = vw ++ [blank fs] ∧ vw.length < 300) (h3 : er ≠ 0 → er = 3 ∧ vw' = vw ∧ vw.length = 300) :
    Calls Tryz.prog 46 #[.pointer (some ⟨b, 0, none⟩), .int .i64 0] w fun e w' => (∃ z : Int, e = .returned (.tuple #[.int .i64 z, .int .i64 er])) ∧ ∃ at', DeskW w w' lo b 0 p fs vw' n0 mode at' M := by
  have hl := hE.len
  have hvf := hid (okT_iff.1 hE).2.1
  have h0 := hid h0
  have h3 := hid h3
  have hq := hid (enter_any b w H.c0.1 H.c0.2)
  have H1 := hid (H.lock 1)
  have m1 := hid ((Mv.refl (w := w) (F := DeskF M)).set (.inl H.fb) 0 (.int .i32 1))
  have hfb := hid H.fb
  clear H hE
  go_enter_defers Tryz.func46, Tryz.ntmps46
  go_wp2_with fail
  refine hq.out.mono ?_
  rintro e w2 ⟨rfl, hx2⟩
  have H2 := hid (H1.out.ext hx2)
  have m2 := hid (m1.out.ext hx2)
  clear hq hx2 H1 m1
  have hst := hid (stored_any w2 H2.out (by omega) ⟨hl.1, hl.2.1⟩)
  clear H2
  go_wp2_with fail
  refine hst.out.mono ?_
  rintro e w3 ⟨rfl, at3, M3, H3, mm3, ff3⟩
  have m3 := hid (m2.out.trans mm3 (fun k hk => .inl hk))
  have f3 := hid (fun (k : Nat) (hk : DeskF M3 k) => (ff3 k hk).imp id (fun h => Nat.le_trans m2.out.size h))
  clear hst mm3 ff3 m2
  have hfb3 := hid H3.fb
  have hlo3 := hid (fun (k : Nat) (hk : DeskF M3 k) => H3.lt hk)
  obtain ⟨rs, vb, ra, d1, d2, d3, d4, d5⟩ := H3
  have hlen : rs.length + ra.length = vw.length := by rw [← d2, List.length_append, d1.len]
  have hrs := hid hlen
  have d1 := hid d1
  have d2 := hid d2
  have d3 := hid d3
  have d5 := hid d5
  obtain ⟨a0, a2, a3, a4, a5, a6, a7, a8, a21⟩ := d1.out.c
  have b9 := d1.out.bk.at (i := 9) rfl
  have b10 := d1.out.bk.at (i := 10) rfl
  have b11 := d1.out.bk.at (i := 11) rfl
  have b12 := d1.out.bk.at (i := 12) rfl
  have b13 := d1.out.bk.at (i := 13) rfl
  have b14 := d1.out.bk.at (i := 14) rfl
  have b15 := d1.out.bk.at (i := 15) rfl
  have b16 := d1.out.bk.at (i := 16) rfl
  have b17 := d1.out.bk.at (i := 17) rfl
  have b18 := d1.out.bk.at (i := 18) rfl
  have b19 := d1.out.bk.at (i := 19) rfl
  have b20 := d1.out.bk.at (i := 20) rfl
  have is1 := hid (IntWalk.i64_in (-((ra.length : Int) + 1)) (by omega))
  have is2 := hid (IntWalk.i64_in ((ra.length : Int) + 1) (by omega))
  have is_ := IntWalk.i64_in ((rs.length : Int) + (ra.length : Int)) (by omega)
  have is0 := IntWalk.i64_in ((rs.length : Int)) (by omega)
  have d4 := hid d4
  replace hlen := hid hlen
  go_wp2_with fail
  clear a0 a2 a3 a4 a5 a6 a7 a8 a21 b9 b10 b11 b12 b13 b14 b15 b16 b17 b18 b19 b20
  go_loopw [10, 43] (fun n v wr => ∃ k : Nat, k ≤ 4 ∧ v = .int .i64 k ∧ (k = 0 ∧ n = .int .i64 (rs.length : Int) ∨ 0 < k ∧ n = .int .i64 ((rs.length : Int) + (ra.length : Int))) ∧ Hid (Ext w3 wr)) (fun _ v _ => 4 - (intOf v).toNat)
  case atStart => exact ⟨0, by omega, rfl, .inl ⟨rfl, rfl⟩, Ext.refl _⟩
  case round =>
    have ix0 := idx91_0
    have ix1 := idx91_1
    have ix2 := idx91_2
    have ix3 := idx91_3
    obtain ⟨k, hk, rfl, hn, hx⟩ := hrel
    obtain rfl | rfl | rfl | rfl | rfl : k = 0 ∨ k = 1 ∨ k = 2 ∨ k = 3 ∨ k = 4 := by omega
    · obtain ⟨_, rfl⟩ | ⟨hc, _⟩ := hn
      · go_wp2
        go_roundw
        case rel => exact ⟨1, by omega, by go_num, .inr ⟨by omega, rfl⟩, hx.out.alloc_right _⟩
        case measure => simp [intOf]
      · omega
    · obtain ⟨hc, _⟩ | ⟨_, rfl⟩ := hn
      · omega
      · go_wp2
        go_roundw
        case rel => exact ⟨2, by omega, by go_num, .inr ⟨by omega, by go_num⟩, hx.out.alloc_right _⟩
        case measure => simp [intOf]
    · obtain ⟨hc, _⟩ | ⟨_, rfl⟩ := hn
      · omega
      · go_wp2
        go_roundw
        case rel => exact ⟨3, by omega, by go_num, .inr ⟨by omega, by go_num⟩, hx.out.alloc_right _⟩
        case measure => simp [intOf]
    · obtain ⟨hc, _⟩ | ⟨_, rfl⟩ := hn
      · omega
      · go_wp2
        go_roundw
        case rel => exact ⟨4, by omega, by go_num, .inr ⟨by omega, by go_num⟩, hx.out.alloc_right _⟩
        case measure => simp [intOf]
    · obtain ⟨hc, _⟩ | ⟨_, rfl⟩ := hn
      · omega
      clear ix0 ix1 ix2 ix3
      have m4' := hid (m3.out.ext hx.out)
      have d1 := hid (d1.out.ext hx.out)
      have m4 := hid (m3.out.ext hx.out)
      have f4 := hid (fun (k : Nat) (hk : wr.heap.size ≤ k) => (show w.heap.size ≤ k from Nat.le_trans m4.out.size hk))
      by_cases he : er = 0
      · obtain ⟨hv, hlt⟩ := h0.out he
        subst he
        subst hv
        have i1 : ¬ (300 : Int) ≤ (rs.length : Int) + (ra.length : Int) := by have := hrs.out; omega
        have hrf := hid (by have h := d1.out.ow.rf; rw [d1.out.ow.2.2.2.2.1] at h; exact (h : RdF wr M3.t.A fs.length M3.t.c fs))
        have hbl := hid (Blank_any M3.t.A fs.length M3.t.c fs wr hrf.out hvf.out)
        obtain ⟨a0, a2, a3, a4, a5, a6, a7, a8, a21⟩ := d1.out.c
        clear h0 h3 hrf hvf hx m3
        go_wp2_with fail
        refine hbl.out.mono ?_
        rintro e w5 ⟨B, d, rfl, oV, hx5⟩
        clear hbl a0 a2 a3 a4 a5 a6 a7 a8 a21
        obtain ⟨hV, hVb⟩ := OwV.mk (lo := lo) (x := blank fs) oV rfl hl.1 (by have := (hlo3.out b hfb3.out).1; have := d1.out.bk.lt; omega) (by simp [blank, blankV])
        obtain ⟨w6, g, e6, h6, s6, kg, x6⟩ := newB w5 [.bool false, .slice B fs.length d] 69
        replace hV := hid (hV.keep (w' := w6) (x6.block hV.lt.2))
        replace hVb := hid hVb
        have d6 := hid (d1.out.ext (hx5.trans x6))
        have m6 := hid (m4.out.ext (hx5.trans x6))
        have hx6 := hid (hx5.trans x6)
        have hg := hid (show wr.heap.size ≤ g from by have := h6.out; have := hx5.size; omega)
        have kg := hid kg
        have hgb := hid (show wr.heap.size ≤ rb ⟨(blank fs).gone, B, fs.length, d⟩ from hVb.out)
        clear m4 hx5 x6 s6 oV
        go_upto_region 17 with fail
        simp only [e6.out, h6.out]
        clear e6 h6
        obtain ⟨a0, a2, a3, a4, a5, a6, a7, a8, a21⟩ := d6.out.c
        by_cases hmd : mode = 0
        · obtain ⟨hch, hra⟩ := d5.out hmd
          have hm0 : (mode == 0) = true := by simp [hmd]
          replace hmd := hid hmd
          have hch := hid hch
          subst hra
          go_upto_region 18 with fail
          clear a0 a2 a3 a4 a5 a6 a7 a8 a21
          have nbF := hid (show ¬ M3.t.F b from fun hF => by have := d1.out.tt b hF; rw [d1.out.td] at this; cases this)
          have em := hid d1.out.ow.2.2.2.1
          have hob := hid (fun k (hk : (Value.slice M3.t.B rs.length M3.t.d).ownBlock = some k) => (show M3.t.F k ∧ lo ≤ k ∧ k < wr.heap.size from ⟨.inr (.inl (by rw [em.out]; exact hk)), d1.out.ow.lt (.inr (.inl (by rw [em.out]; exact hk)))⟩))
          have hO := d6.out.ow.ext (Ext.refl w6).drew_right
          have hVd := hV.out.keep (w' := w6.drew) rfl
          have hs6 := hid (show wr.heap.size ≤ w6.heap.size from hx6.out.size)
          have xa : (fun w' => Mv w6 w' (fun k => (Value.slice M3.t.B rs.length M3.t.d).ownBlock = some k)) w6.drew := (Mv.of (Ext.refl w6).drew_right)
          refine region_J (fun w' => Mv w6 w' (fun k => (Value.slice M3.t.B rs.length M3.t.d).ownBlock = some k)) 12 (by kernel_rfl) ?_
          generalize w6.drew = da at * 
          refine JW 0 (v := ?va1) rfl (by kernel_rfl) rfl ?ya1 xa ?ra1
          case ya1 => (intro w hw; (go_simp; with_reducible rfl))
          simp only [Act.put, lyA, lyB, lyC, lyD, lyE, lyF]
          refine JW 1 (v := ?va2) rfl (by kernel_rfl) rfl ?ya2 xa ?ra2
          case ya2 => (intro w hw; (go_simp; with_reducible rfl))
          simp only [Act.put, lyA, lyB, lyC, lyD, lyE, lyF]
          refine JW 2 (v := ?va3) rfl (by kernel_rfl) rfl ?ya3 xa ?ra3
          case ya3 => (intro w hw; (go_simp; with_reducible rfl))
          simp only [Act.put, lyA, lyB, lyC, lyD, lyE, lyF]
          refine JW 3 (v := ?va4) rfl (by kernel_rfl) rfl ?ya4 xa ?ra4
          case ya4 => (intro w hw; (go_simp; with_reducible rfl))
          simp only [Act.put, lyA, lyB, lyC, lyD, lyE, lyF]
          refine JW 4 (v := ?va5) rfl (by kernel_rfl) rfl ?ya5 xa ?ra5
          case ya5 => (intro w hw; (go_simp; with_reducible rfl))
          simp only [Act.put, lyA, lyB, lyC, lyD, lyE, lyF]
          refine JW 5 (v := ?va6) rfl (by kernel_rfl) rfl ?ya6 xa ?ra6
          case ya6 => (intro w hw; have hb := d6.out.bk.keep (hw.at d6.out.bk.lt (fun e => nbF.out (hob.out b e).1)); have a4 : w.cell? ⟨b, 4, none⟩ = some (.slice M3.t.B rs.length M3.t.d) := (by rw [← em.out]; exact hb.at rfl); obtain ⟨q0, q1⟩ := (kg.out.keep (hw.at kg.out.lt (fun e => by have := (hob.out g e).2.2; have := hg.out; omega))).c2; (go_simp; with_reducible rfl))
          simp only [Act.put, lyA, lyB, lyC, lyD, lyE, lyF]
          refine JW 6 (v := ?va7) rfl (by kernel_rfl) rfl ?ya7 xa ?ra7
          case ya7 => (intro w hw; have hb := d6.out.bk.keep (hw.at d6.out.bk.lt (fun e => nbF.out (hob.out b e).1)); have a4 : w.cell? ⟨b, 4, none⟩ = some (.slice M3.t.B rs.length M3.t.d) := (by rw [← em.out]; exact hb.at rfl); obtain ⟨q0, q1⟩ := (kg.out.keep (hw.at kg.out.lt (fun e => by have := (hob.out g e).2.2; have := hg.out; omega))).c2; (go_simp; with_reducible rfl))
          simp only [Act.put, lyA, lyB, lyC, lyD, lyE, lyF]
          refine J_one 7 rfl (by kernel_rfl) (fun K hK => ?_)
          go_simp
          have sa8 := one_rd da (rcl ⟨false, B, fs.length, d⟩) 69 2 rfl
          have hxa8 := Ext.new da (.cells #[.bool false, .slice B fs.length d] 69)
          change Rd (da.alloc (.cells #[.bool false, .slice B fs.length d] 69)) _ _ _ _ _ at sa8
          generalize da.alloc (.cells #[.bool false, .slice B fs.length d] 69) = wa8 at *
          generalize da.heap.size = ba8 at *
          replace hO := hO.ext hxa8
          replace hVd := hVd.keep (w' := wa8) (hxa8.block hVd.lt.2)
          refine hK _ _ ⟨fun _ => ((xa).ext hxa8), ?_⟩
          clear hK K
          try simp only [Act.put, lyA, lyB, lyC, lyD, lyE, lyF]
          have xa8 : (fun w' => Mv w6 w' (fun k => (Value.slice M3.t.B rs.length M3.t.d).ownBlock = some k)) wa8 := ((xa).ext hxa8)
          refine J_one 8 rfl (by kernel_rfl) (fun K hK => ?_)
          have hr0 := hO.2.1.1
          rw [hO.2.2.1, em.out] at hr0
          obtain ⟨Aa9, ca9, wa9, happa9, owna9, hga9, hgba9⟩ := app23 wa8 lo 23 (.slice M3.t.B rs.length M3.t.d) rs.length _ hr0 _ 1 1 _ sa8 (rcl_one _) (by have := (xa8).size; have := (hlo3.out b hfb3.out).1; have := d6.out.bk.lt; omega) (by omega)
          have hyn : ¬ M3.t.F (rb ⟨(blank fs).gone, B, fs.length, d⟩) := fun e => by have := (d1.out.ow.lt e).2; have := hgb.out; omega
          have hP := hid (OwTt.push (B' := Aa9) (d' := ca9) hO hVd hyn (by rw [em.out]; exact owna9) (by rw [em.out]; exact hga9) (by rw [em.out]; exact hgba9))
          have hPF := hid (fun k hk => OwTt.push_F (t := M3.t) (y := ⟨(blank fs).gone, B, fs.length, d⟩) (B' := Aa9) (d' := ca9) (u := wa8) (k := k) (by rw [em.out]; exact hgba9) hk)
          have hws := (xa8).size
          replace happa9 := hid happa9
          clear hO hr0 owna9 sa8
          refine step_run rfl _ (ex_append _ _ _ _ rfl _ _ (by simp [Act.eval, Act.put]) (by simp [Act.eval, Act.put]) _ happa9.out) ?_
          refine hK _ _ ⟨fun _ => (xa8).grown hga9 (fun g hg => .inl hg), ?_⟩
          clear hK K
          try simp only [Act.put, lyA, lyB, lyC, lyD, lyE, lyF]
          have xa9 : (fun w' => Mv w6 w' (fun k => (Value.slice M3.t.B rs.length M3.t.d).ownBlock = some k)) wa9 := (xa8).grown hga9 (fun g hg => .inl hg)
          refine J_one 9 rfl (by kernel_rfl) (fun K hK => ?_)
          go_simp
          refine hK _ _ ⟨fun _ => xa9, ?_⟩
          clear hK K
          try simp only [Act.put, lyA, lyB, lyC, lyD, lyE, lyF]
          refine J_one 10 rfl (by kernel_rfl) (fun K hK => ?_)
          go_simp
          refine hK _ _ ⟨fun _ => xa9, ?_⟩
          clear hK K
          try simp only [Act.put, lyA, lyB, lyC, lyD, lyE, lyF]
          refine JW 11 (v := ?va12) rfl (by kernel_rfl) rfl ?ya12 xa9 ?ra12
          case ya12 => (intro w hw; (go_simp; with_reducible rfl))
          simp only [Act.put, lyA, lyB, lyC, lyD, lyE, lyF]
          refine J_one 12 rfl (by kernel_rfl) (fun K hK => ?_)
          have k6 := d6.out.bk.keep ((xa9).at d6.out.bk.lt (fun e => nbF.out (hob.out b e).1))
          have z4 : wa9.cell? ⟨b, 4, none⟩ = some (.slice M3.t.B M3.t.m M3.t.d) := k6.at rfl
          have fz := k6.free 4
          go_simp
          refine hK _ _ ⟨fun h => absurd rfl h, ?_⟩
          clear hK K
          try simp only [Act.put, lyA, lyB, lyC, lyD, lyE, lyF]
          have hPb : ¬ (⟨M3.t.A, M3.t.n, M3.t.c, Aa9, M3.t.m + 1, ca9, M3.t.rr ++ [⟨(blank fs).gone, B, fs.length, d⟩]⟩ : Tt).F b := fun e => by
            rcases hPF.out b e with e | e | e
            · exact nbF.out e
            · have := hgb.out; rw [e] at this; have := d1.out.bk.lt; omega
            · have := d6.out.bk.lt; omega
          have hPn : ∀ k, (⟨M3.t.A, M3.t.n, M3.t.c, Aa9, M3.t.m + 1, ca9, M3.t.rr ++ [⟨(blank fs).gone, B, fs.length, d⟩]⟩ : Tt).F k → M3.t.F k ∨ wr.heap.size ≤ k := fun k hk => by
            rcases hPF.out k hk with e | e | e
            · exact .inl e
            · exact .inr (by rw [← e]; exact hgb.out)
            · exact .inr (by have := hs6.out; omega)
          have hm6 := (Mv.of (F := fun k => k = b ∨ M3.t.F k) hx6.out).trans (xa9) (fun k e => .inl (.inr (hob.out k e).1))
          have k7 := k6.set 4 (.slice Aa9 (M3.t.m + 1) ca9)
          have h7 := hP.out.keep (w' := wa9.setCell ⟨b, 4, none⟩ (.slice Aa9 (M3.t.m + 1) ca9)) (fun k hk => (setCell_at wa9 b 4 _).2 k (fun e => hPb (e ▸ hk)))
          have m7 := hm6.set (g := b) (.inl (.inl rfl)) 4 (.slice Aa9 (M3.t.m + 1) ca9)
          rw [em.out] at k7 h7 m7
          obtain ⟨y4, y6⟩ : (wa9.setCell ⟨b, 4, none⟩ (.slice Aa9 (rs.length + 1) ca9)).cell? ⟨b, 4, none⟩ = some (.slice Aa9 (rs.length + 1) ca9) ∧ (wa9.setCell ⟨b, 4, none⟩ (.slice Aa9 (rs.length + 1) ca9)).cell? ⟨b, 6, none⟩ = some (.int .i64 at3) := ⟨k7.at rfl, k7.at rfl⟩
          have yz := k7.free 6
          generalize wa9.setCell ⟨b, 4, none⟩ (.slice Aa9 (rs.length + 1) ca9) = w7 at *
          have k8 := hid (k7.set 6 (.int .i64 ((rs.length : Int) + 1)))
          have h8 := hid (h7.keep (w' := w7.setCell ⟨b, 6, none⟩ (.int .i64 ((rs.length : Int) + 1))) (fun k hk => (setCell_at w7 b 6 _).2 k (fun e => by rw [← em.out] at hk; exact hPb (e ▸ hk))))
          have m8 := hid (m7.set (g := b) (.inl (.inl rfl)) 6 (.int .i64 ((rs.length : Int) + 1)))
          obtain ⟨τ8, hd8⟩ : ∃ M8 : Dm, DeskI (w7.setCell ⟨b, 6, none⟩ (.int .i64 ((rs.length : Int) + 1))) lo b 1 p fs (rs ++ [blank fs]) (rs ++ [blank fs]) [] mode ((rs.length : Int) + 1) M8 ∧ M8.ch = [] ∧ ∀ k, M8.τ k ≠ .no → DeskF M3 k ∨ wr.heap.size ≤ k := by
            obtain ⟨q1, q2⟩ := d1.out.table (at' := (rs.length : Int) + 1) (u := ⟨M3.t.A, M3.t.n, M3.t.c, Aa9, rs.length + 1, ca9, M3.t.rr ++ [⟨(blank fs).gone, B, fs.length, d⟩]⟩) hch.out k8.out h8.out (fun k hk => by rw [← em.out] at hk; exact hPn k hk) m8.out
            exact ⟨_, q1, hch.out, q2⟩
          have hres : Hid (DeskW w (w7.setCell ⟨b, 6, none⟩ (.int .i64 ((rs.length : Int) + 1))) lo b 1 p fs (vw ++ [blank fs]) n0 mode ((rs.length : Int) + 1) M) := by
            have hvw : vw = rs := by have := d2.out; rw [List.append_nil, d1.out.vbrs hch.out] at this; exact this.symm
            refine hid ⟨τ8, ⟨rs ++ [blank fs], rs ++ [blank fs], [], hd8.1, by rw [hvw, List.append_nil], by have := d3.out; simp; omega, by simp; omega, fun _ => ⟨hd8.2.1, rfl⟩⟩, m4'.out.trans (m8.out.mono (fun k e => (show DeskF M3 k from e.elim (fun e => e ▸ hfb3.out) (fun e => by unfold DeskF; rw [d1.out.tt k e]; simp)))) (fun k hk => f3.out k hk), fun k hk => (hd8.2.2 k hk).elim (f3.out k) (fun e => .inr (f4.out k e))⟩
          have c0 := hid hres.out.c0.1
          have g0 := hid hres.out.c0.2
          have y8 : (w7.setCell ⟨b, 6, none⟩ (.int .i64 ((rs.length : Int) + 1))).cell? ⟨b, 6, none⟩ = some (.int .i64 ((rs.length : Int) + 1)) := k8.out.at rfl
          replace hres := hid (hres.out.unlock hfb.out)
          have is1 := IntWalk.i64_in ((rs.length : Int) + 1) (by omega)
          clear k6 z4 fz hPn hPb hm6 k7 h7 m7 k8 h8 m8 hd8 hP hPF hws d1 d6 hV hVb hVd hob kg
          refine J_done (by kernel_rfl) (OnlyOn.normal ?_)
          go_wp2
          refine leaves_cons (f := 57) (args := #[.pointer (some ⟨b, 0, none⟩)]) (by simp) (by simp [go_sem]) ?_
          refine (unlock_deferred muLib ⟨b, 0, none⟩ .returning _ c0.out g0.out).mono ?_
          rintro e u' w'' ⟨rfl, rfl, rfl⟩
          exact ⟨.tuple #[.int .i64 ((rs.length : Int) + 1), .int .i64 0], (by simp [results, Tryz.results46, go_sem]), ⟨_, rfl⟩, _, hres.out⟩
        · have hm0 : (mode == 0) = false := by simp [hmd]
          replace hmd := hid hmd
          go_upto_region 20 with fail
          clear a0 a2 a3 a4 a5 a6 a7 a8 a21
          have en := hid d1.out.pl
          have hob := hid (fun k (hk : (Value.slice M3.pA M3.pn M3.pc).ownBlock = some k) => (show M3.τ k = .app ∧ lo ≤ k ∧ k < wr.heap.size from ⟨d1.out.ta k (.inl hk), d1.out.bd k (by rw [d1.out.ta k (.inl hk)]; simp)⟩))
          have nbF := hid (show ¬ (Value.slice M3.pA M3.pn M3.pc).ownBlock = some b from fun e => by have := (hob.out b e).1; rw [d1.out.td] at this; cases this)
          have hO := d6.out.ap.ext (Ext.refl w6).drew_right
          have hVd := hV.out.keep (w' := w6.drew) rfl
          have hs6 := hid (show wr.heap.size ≤ w6.heap.size from hx6.out.size)
          have xb : (fun w' => Mv w6 w' (fun k => (Value.slice M3.pA M3.pn M3.pc).ownBlock = some k)) w6.drew := (Mv.of (Ext.refl w6).drew_right)
          refine region_J (fun w' => Mv w6 w' (fun k => (Value.slice M3.pA M3.pn M3.pc).ownBlock = some k)) 10 (by kernel_rfl) ?_
          generalize w6.drew = db at * 
          refine JW 0 (v := ?vb1) rfl (by kernel_rfl) rfl ?yb1 xb ?rb1
          case yb1 => (intro w hw; (go_simp; with_reducible rfl))
          simp only [Act.put, lyA, lyB, lyC, lyD, lyE, lyF]
          refine JW 1 (v := ?vb2) rfl (by kernel_rfl) rfl ?yb2 xb ?rb2
          case yb2 => (intro w hw; (go_simp; with_reducible rfl))
          simp only [Act.put, lyA, lyB, lyC, lyD, lyE, lyF]
          refine JW 2 (v := ?vb3) rfl (by kernel_rfl) rfl ?yb3 xb ?rb3
          case yb3 => (intro w hw; (go_simp; with_reducible rfl))
          simp only [Act.put, lyA, lyB, lyC, lyD, lyE, lyF]
          refine JW 3 (v := ?vb4) rfl (by kernel_rfl) rfl ?yb4 xb ?rb4
          case yb4 => (intro w hw; (go_simp; with_reducible rfl))
          simp only [Act.put, lyA, lyB, lyC, lyD, lyE, lyF]
          refine JW 4 (v := ?vb5) rfl (by kernel_rfl) rfl ?yb5 xb ?rb5
          case yb5 => (intro w hw; have hb := d6.out.bk.keep (hw.at d6.out.bk.lt nbF.out); have a8 : w.cell? ⟨b, 8, none⟩ = some (.slice M3.pA ra.length M3.pc) := (by rw [← en.out.2]; exact hb.at rfl); obtain ⟨q0, q1⟩ := (kg.out.keep (hw.at kg.out.lt (fun e => by have := (hob.out g e).2.2; have := hg.out; omega))).c2; (go_simp; with_reducible rfl))
          simp only [Act.put, lyA, lyB, lyC, lyD, lyE, lyF]
          refine JW 5 (v := ?vb6) rfl (by kernel_rfl) rfl ?yb6 xb ?rb6
          case yb6 => (intro w hw; have hb := d6.out.bk.keep (hw.at d6.out.bk.lt nbF.out); have a8 : w.cell? ⟨b, 8, none⟩ = some (.slice M3.pA ra.length M3.pc) := (by rw [← en.out.2]; exact hb.at rfl); obtain ⟨q0, q1⟩ := (kg.out.keep (hw.at kg.out.lt (fun e => by have := (hob.out g e).2.2; have := hg.out; omega))).c2; (go_simp; with_reducible rfl))
          simp only [Act.put, lyA, lyB, lyC, lyD, lyE, lyF]
          refine J_one 6 rfl (by kernel_rfl) (fun K hK => ?_)
          go_simp
          have sb7 := one_rd db (rcl ⟨false, B, fs.length, d⟩) 69 2 rfl
          have hxb7 := Ext.new db (.cells #[.bool false, .slice B fs.length d] 69)
          change Rd (db.alloc (.cells #[.bool false, .slice B fs.length d] 69)) _ _ _ _ _ at sb7
          generalize db.alloc (.cells #[.bool false, .slice B fs.length d] 69) = wb7 at *
          generalize db.heap.size = bb7 at *
          replace hO := hO.ext hxb7
          replace hVd := hVd.keep (w' := wb7) (hxb7.block hVd.lt.2)
          refine hK _ _ ⟨fun _ => ((xb).ext hxb7), ?_⟩
          clear hK K
          try simp only [Act.put, lyA, lyB, lyC, lyD, lyE, lyF]
          have xb7 : (fun w' => Mv w6 w' (fun k => (Value.slice M3.pA M3.pn M3.pc).ownBlock = some k)) wb7 := ((xb).ext hxb7)
          refine J_one 7 rfl (by kernel_rfl) (fun K hK => ?_)
          have hr0 := hO.1
          rw [en.out.1, en.out.2] at hr0
          obtain ⟨Ab8, cb8, wb8, happb8, ownb8, hgb8, hgbb8⟩ := app23 wb7 lo 23 (.slice M3.pA ra.length M3.pc) ra.length _ hr0 _ 1 1 _ sb7 (rcl_one _) (by have := (xb7).size; have := (hlo3.out b hfb3.out).1; have := d6.out.bk.lt; omega) (by omega)
          have hgy := hgb.out
          have hP := hid (OwR.push (y := ⟨(blank fs).gone, B, fs.length, d⟩) (v' := .slice Ab8 (ra.length + 1) cb8) hO en.out.1 hVd (fun e => by have := (hob.out _ e).2.2; omega) (fun i hi e => by have := (d1.out.ap.2.1 i hi).lt.2; omega) (by rw [en.out.1]; exact ownb8) (by rw [en.out.2]; exact hgb8) (by rw [en.out.2]; exact hgbb8))
          have hws := (xb7).size
          have hvv := hid (show (Value.slice Ab8 (ra.length + 1) cb8).ownBlock = (Value.slice M3.pA M3.pn M3.pc).ownBlock ∨ ∀ g, (Value.slice Ab8 (ra.length + 1) cb8).ownBlock = some g → wr.heap.size ≤ g from by
            rw [en.out.2]
            rcases hgbb8 with e | e
            · exact .inl e
            · exact .inr (fun g hg => by have := e g hg; have := hs6.out; omega))
          replace happb8 := hid happb8
          clear hO hr0 ownb8 sb7
          refine step_run rfl _ (ex_append _ _ _ _ rfl _ _ (by simp [Act.eval, Act.put]) (by simp [Act.eval, Act.put]) _ happb8.out) ?_
          refine hK _ _ ⟨fun _ => (xb7).grown hgb8 (fun g hg => .inl (by rw [en.out.2]; exact hg)), ?_⟩
          clear hK K
          try simp only [Act.put, lyA, lyB, lyC, lyD, lyE, lyF]
          have xb8 : (fun w' => Mv w6 w' (fun k => (Value.slice M3.pA M3.pn M3.pc).ownBlock = some k)) wb8 := (xb7).grown hgb8 (fun g hg => .inl (by rw [en.out.2]; exact hg))
          refine J_one 8 rfl (by kernel_rfl) (fun K hK => ?_)
          go_simp
          refine hK _ _ ⟨fun _ => xb8, ?_⟩
          clear hK K
          try simp only [Act.put, lyA, lyB, lyC, lyD, lyE, lyF]
          refine JW 9 (v := ?vb10) rfl (by kernel_rfl) rfl ?yb10 xb8 ?rb10
          case yb10 => (intro w hw; (go_simp; with_reducible rfl))
          simp only [Act.put, lyA, lyB, lyC, lyD, lyE, lyF]
          refine J_one 10 rfl (by kernel_rfl) (fun K hK => ?_)
          have k6 := d6.out.bk.keep ((xb8).at d6.out.bk.lt nbF.out)
          have z8 : wb8.cell? ⟨b, 8, none⟩ = some (.slice M3.pA M3.pn M3.pc) := k6.at rfl
          have fz := k6.free 8
          go_simp
          refine hK _ _ ⟨fun h => absurd rfl h, ?_⟩
          clear hK K
          try simp only [Act.put, lyA, lyB, lyC, lyD, lyE, lyF]
          have hm6 := (Mv.of (F := fun k => k = b ∨ (Value.slice M3.pA M3.pn M3.pc).ownBlock = some k) hx6.out).trans (xb8) (fun k e => .inl (.inr e))
          have k7 := k6.set 8 (.slice Ab8 (ra.length + 1) cb8)
          have hne : ∀ k, (Value.slice Ab8 (ra.length + 1) cb8).ownBlock = some k → k ≠ b := fun k hk e => by
            rcases hvv.out with h | h
            · exact nbF.out (by rw [← h, ← e]; exact hk)
            · have := h k hk; have := d1.out.bk.lt; omega
          have hne2 : ∀ i, i < (ra ++ [blank fs]).length → rb (rrth (M3.pr ++ [⟨(blank fs).gone, B, fs.length, d⟩]) i) ≠ b := fun i hi e => by
            by_cases q : i = M3.pr.length
            · subst q; rw [rrth_app_eq] at e; have := hgb.out; rw [e] at this; have := d1.out.bk.lt; omega
            · have hi2 : i < M3.pr.length := by have := en.out.1; simp at hi; omega
              rw [rrth_app_lt hi2] at e
              have := d1.out.ta _ (.inr ⟨i, hi2, rfl⟩)
              rw [e, d1.out.td] at this; cases this
          have h7 := hP.out.keep (w' := wb8.setCell ⟨b, 8, none⟩ (.slice Ab8 (ra.length + 1) cb8)) (fun k hk => (setCell_at wb8 b 8 _).2 k (hne k hk)) (fun i hi => (setCell_at wb8 b 8 _).2 _ (hne2 i hi))
          have m7 := hm6.set (g := b) (.inl (.inl rfl)) 8 (.slice Ab8 (ra.length + 1) cb8)
          obtain ⟨y8, y6⟩ : (wb8.setCell ⟨b, 8, none⟩ (.slice Ab8 (ra.length + 1) cb8)).cell? ⟨b, 8, none⟩ = some (.slice Ab8 (ra.length + 1) cb8) ∧ (wb8.setCell ⟨b, 8, none⟩ (.slice Ab8 (ra.length + 1) cb8)).cell? ⟨b, 6, none⟩ = some (.int .i64 at3) := ⟨k7.at rfl, k7.at rfl⟩
          have yz := k7.free 6
          generalize wb8.setCell ⟨b, 8, none⟩ (.slice Ab8 (ra.length + 1) cb8) = w7 at *
          have k8 := hid (k7.set 6 (.int .i64 (-((ra.length : Int) + 1))))
          have h8 := hid (h7.keep (w' := w7.setCell ⟨b, 6, none⟩ (.int .i64 (-((ra.length : Int) + 1)))) (fun k hk => (setCell_at w7 b 6 _).2 k (hne k hk)) (fun i hi => (setCell_at w7 b 6 _).2 _ (hne2 i hi)))
          have m8 := hid (m7.set (g := b) (.inl (.inl rfl)) 6 (.int .i64 (-((ra.length : Int) + 1))))
          obtain ⟨M8, hd8⟩ : ∃ M8 : Dm, DeskI (w7.setCell ⟨b, 6, none⟩ (.int .i64 (-((ra.length : Int) + 1)))) lo b 1 p fs rs vb (ra ++ [blank fs]) mode (-((ra.length : Int) + 1)) M8 ∧ ∀ k, M8.τ k ≠ .no → DeskF M3 k ∨ wr.heap.size ≤ k := by
            obtain ⟨τ', q1, q2⟩ := d1.out.buffer (at' := -((ra.length : Int) + 1)) (x := blank fs) (y := ⟨(blank fs).gone, B, fs.length, d⟩) k8.out h8.out hvv.out hgb.out m8.out
            exact ⟨_, q1, q2⟩
          have hres : Hid (DeskW w (w7.setCell ⟨b, 6, none⟩ (.int .i64 (-((ra.length : Int) + 1)))) lo b 1 p fs (vw ++ [blank fs]) n0 mode (-((ra.length : Int) + 1)) M) := by
            refine hid ⟨M8, ⟨rs, vb, ra ++ [blank fs], hd8.1, by rw [← d2.out, List.append_assoc], d3.out, by rw [List.length_append]; simp, fun e => absurd e hmd.out⟩, m4'.out.trans (m8.out.mono (fun k e => (show DeskF M3 k from e.elim (fun e => e ▸ hfb3.out) (fun e => by unfold DeskF; rw [(hob.out k e).1]; simp)))) (fun k hk => f3.out k hk), fun k hk => (hd8.2 k hk).elim (f3.out k) (fun e => .inr (f4.out k e))⟩
          have c0 := hid hres.out.c0.1
          have g0 := hid hres.out.c0.2
          have x8 : (w7.setCell ⟨b, 6, none⟩ (.int .i64 (-((ra.length : Int) + 1)))).cell? ⟨b, 6, none⟩ = some (.int .i64 (-((ra.length : Int) + 1))) := k8.out.at rfl
          replace hres := hid (hres.out.unlock hfb.out)
          replace is1 := is1.out
          replace is2 := is2.out
          clear k6 z8 fz hm6 k7 h7 m7 k8 h8 m8 hd8 hP hws d1 d6 hV hVb hVd hob kg hne hne2 hvv
          refine J_done (by kernel_rfl) (OnlyOn.normal ?_)
          go_wp2
          refine leaves_cons (f := 57) (args := #[.pointer (some ⟨b, 0, none⟩)]) (by simp) (by simp [go_sem]) ?_
          refine (unlock_deferred muLib ⟨b, 0, none⟩ .returning _ c0.out g0.out).mono ?_
          rintro e u' w'' ⟨rfl, rfl, rfl⟩
          exact ⟨.tuple #[.int .i64 (-((ra.length : Int) + 1)), .int .i64 0], (by simp [results, Tryz.results46, go_sem]), ⟨_, rfl⟩, _, hres.out⟩
      · obtain ⟨rfl, rfl, hlt⟩ := h3.out he
        have i1 : (300 : Int) ≤ (rs.length : Int) + (ra.length : Int) := by have := hrs.out; omega
        have hres : Hid (DeskW w wr lo b 1 p fs vw' n0 mode at3 M) := hid ⟨M3, ⟨rs, vb, ra, d1.out, d2.out, d3.out, d4.out, d5.out⟩, m4.out, f3.out⟩
        have c0 := hid hres.out.c0.1
        have g0 := hid hres.out.c0.2
        replace hres := hid (hres.out.unlock hfb.out)
        clear d1 h0 h3 he
        go_wp2
        refine leaves_cons (f := 57) (args := #[.pointer (some ⟨b, 0, none⟩)]) (by simp) (by simp [go_sem]) ?_
        refine (unlock_deferred muLib ⟨b, 0, none⟩ .returning _ c0.out g0.out).mono ?_
        rintro e u' w'' ⟨rfl, rfl, rfl⟩
        exact ⟨.tuple #[.int .i64 0, .int .i64 3], (by simp [results, Tryz.results46, go_sem]), ⟨_, rfl⟩, _, hres.out⟩
end
open Go.RowKit Go.Shelf Go.MuLone
section
variable {lo b n0 : Nat} {p : Int} {fs : List Fd} {vw : List Rc} {mode at_ : Int} {M : Dm}
theorem act_set {p : Int} {fs : List Fd} {vals : List Vl} {rs : List Rc} {x : Ac} {i : Nat} (h : x.op = 0) (hi : x.a = (i : Int) + 1) : actE p fs vals rs x = setE p fs x.s (valOf vals x.b) ∧ actR p fs vals rs x = setR p fs rs i x.s (valOf vals x.b) := by
  have e : (x.a - 1).toNat = i := by omega
  refine ⟨by unfold actE; rw [if_pos h]; rfl, ?_⟩
  unfold actR
  rw [if_pos h, e]
  rfl
theorem act_mark {p : Int} {fs : List Fd} {vals : List Vl} {rs : List Rc} {x : Ac} {i : Nat} (h : x.op = 1) (hi : x.a = (i : Int) + 1) : actE p fs vals rs x = 0 ∧ actR p fs vals rs x = markAt rs i (!decide (x.c = 0)) := by
  have e : (x.a - 1).toNat = i := by omega
  refine ⟨by unfold actE; rw [if_neg (show ¬ x.op = 0 by omega), if_neg (show ¬ x.op = 2 by omega)], ?_⟩
  unfold actR
  rw [if_neg (show ¬ x.op = 0 by omega), if_pos h, e]
theorem act_app {p : Int} {fs : List Fd} {vals : List Vl} {rs : List Rc} {x : Ac} (h : x.op = 2) (hl : rs.length ≤ 300) : (actE p fs vals rs x = 0 → actR p fs vals rs x = rs ++ [blank fs] ∧ rs.length < 300) ∧ (actE p fs vals rs x ≠ 0 → actE p fs vals rs x = 3 ∧ actR p fs vals rs x = rs ∧ rs.length = 300) := by
  unfold actE actR
  rw [if_neg (show ¬ x.op = 0 by omega), if_pos h, if_neg (show ¬ x.op = 0 by omega), if_neg (show ¬ x.op = 1 by omega), if_pos h]
  by_cases h3 : 300 ≤ rs.length
  · rw [if_pos h3, if_pos h3]; exact ⟨fun e => (by cases e), fun _ => ⟨rfl, rfl, by omega⟩⟩
  · rw [if_neg h3, if_neg h3]; exact ⟨fun _ => ⟨rfl, by omega⟩, fun e => absurd rfl e⟩
theorem act_else {p : Int} {fs : List Fd} {vals : List Vl} {rs : List Rc} {x : Ac} (h0 : x.op ≠ 0) (h1 : x.op ≠ 1) (h2 : x.op ≠ 2) : actE p fs vals rs x = 0 ∧ actR p fs vals rs x = rs := by
  unfold actE actR
  rw [if_neg h0, if_neg h2, if_neg h0, if_neg h1, if_neg h2]
  exact ⟨rfl, rfl⟩
theorem own_at {m : Nat} {x : Ac} (h : ownB m x = true) (h2 : x.op ≠ 2) : ∃ i : Nat, x.a = (i : Int) + 1 ∧ i < m := by
  unfold ownB at h
  rw [decide_eq_false h2, Bool.false_or] at h
  simp at h
  exact ⟨(x.a - 1).toNat, by omega, by omega⟩
theorem buffered_any (c : Cg) (x : Ac) (vals : List Vl) (w : World) (H : DeskV w lo b 0 p fs vw n0 mode at_ M) (hE : okT p fs vw) (hv : RdV w c.V c.vn c.vc vals) (hvl : ∀ k, atB c.V c.vn k → k < lo) (ho : ownB n0 x = true) :
    Calls Tryz.prog 13 #[.pointer (some ⟨b, 0, none⟩), .agg (cgC c).toArray, .agg (acC x).toArray] w fun e w' => e = .returned (.int .i64 (actE p fs vals vw x)) ∧ ∃ at', DeskW w w' lo b 0 p fs (actR p fs vals vw x) n0 mode at' M := by
  obtain ⟨w1, g1, e1, h1, s1, k1, x1⟩ := newB w (cgC c) 30
  obtain ⟨w2, g2, e2, h2, s2, k2, x2⟩ := newB w1 (acC x) 46
  have h2 := s1.out.symm.trans h2.out
  have hx := hid (x1.trans x2)
  have H2 := hid (H.ext hx.out)
  have hl := hE.len
  have hE := hid hE
  have hvl := hid hvl
  have hg := hid (show ¬ DeskF M g1 ∧ ¬ DeskF M g2 from ⟨fun e => by have := (H.lt e).2; have := h1.out; omega, fun e => by have := (H.lt e).2; have := h1.out; omega⟩)
  have hlo := hid (fun (k : Nat) (hk : DeskF M k) => (H.lt hk).1)
  have hv2 := hid (hv.ext hx.out)
  have k1 := hid (k1.ext x2)
  have k2 := hid k2
  have m2 := hid (Mv.of (F := DeskF M) hx.out)
  have ho := hid ho
  clear H x1 x2 hv
  unfold cgC at e1 ⊢
  unfold acC at e2 ⊢
  go_enter Tryz.func13, Tryz.ntmps13
  go_upto_region 1 with fail
  simp only [e1.out, e2.out, h1.out, h2]
  clear e1 e2 h1 h2
  obtain ⟨a0, a1, a2, a3, a4, a5⟩ := k2.out.c6
  by_cases h2 : x.op = 2
  · obtain ⟨q1, q2⟩ := act_app (p := p) (fs := fs) (vals := vals) (x := x) h2 hl.2.2
    have hap := hid (deskAppend_any (actE p fs vals vw x) (actR p fs vals vw x) w2 H2.out hE.out q1 q2)
    rw [h2] at a0
    have eE : Hid (actE p fs vals vw x = actE p fs vals vw x) := rfl
    have eR : Hid (actR p fs vals vw x = actR p fs vals vw x) := rfl
    revert eE eR hap
    generalize hA : actE p fs vals vw x = er
    generalize hB : actR p fs vals vw x = vw'
    intro hap _ _
    replace hA := hid hA
    replace hB := hid hB
    clear q1 q2 h2 H2
    go_wp2_with fail
    refine hap.out.mono ?_
    rintro e w3 ⟨⟨z, rfl⟩, at', hW⟩
    have hres := hid (DeskW.trans m2.out (fun k hk => .inl hk) hW)
    clear hap hW a0 a1 a2 a3 a4 a5
    go_wp2
    go_ret
    exact ⟨by rw [hA.out]; rfl, _, by rw [hB.out]; exact hres.out⟩
  · obtain ⟨i, hi, hin⟩ := own_at ho.out h2
    have hi := hid hi
    by_cases h01 : x.op = 0 ∨ x.op = 1
    · have hgo := hid (Go_any i w2 H2.out hl.2.2 ⟨hl.1, hl.2.1⟩ hin)
      have a1' := hid a1
      rw [hi.out] at a1
      by_cases h0 : x.op = 0
      · obtain ⟨q1, q2⟩ := act_set (p := p) (fs := fs) (vals := vals) (rs := vw) (x := x) h0 hi.out
        replace q1 := hid q1
        replace q2 := hid q2
        clear H2 h01 h2
        rw [h0] at a0
        replace h0 := hid h0
        go_wp2_with fail
        refine hgo.out.mono ?_
        rintro e w3 ⟨rfl, M3, H3, m3, f3⟩
        clear hgo a0 a1 a2 a3 a4 a5
        have k13 := hid (k1.out.keep (m3.at k1.out.lt hg.out.1))
        have k23 := hid (k2.out.keep (m3.at k2.out.lt hg.out.2))
        have hv3 := hid (hv2.out.keepB (fun q hq => m3.at (hv2.out.atlt hq) (fun e => by have := hlo.out q e; have := hvl.out q hq; omega)))
        have hlt3 := hid (show g1 < w2.heap.size ∧ g2 < w2.heap.size from ⟨k1.out.lt, k2.out.lt⟩)
        have hg3 := hid (show ¬ DeskF M3 g1 ∧ ¬ DeskF M3 g2 from ⟨fun e => (f3 _ e).elim hg.out.1 (fun h => by have := hlt3.out; omega), fun e => (f3 _ e).elim hg.out.2 (fun h => by have := hlt3.out; omega)⟩)
        have m4 := hid (m2.out.trans m3 (fun k hk => .inl hk))
        have f4 := hid (fun (k : Nat) (hk : DeskF M3 k) => (f3 k hk).imp id (fun h => Nat.le_trans m2.out.size h))
        have H3 := hid H3
        have hlo3 := hid (fun (k : Nat) (hk : DeskF M3 k) => (H3.out.lt hk).1)
        obtain ⟨a0, a1, a2, a3, a4, a5⟩ := k23.out.c6
        rw [h0.out] at a0
        clear m3 f3 k1 k2 hv2 m2
        go_upto_region 11 with fail
        clear a0 a1 a2 a3 a4 a5
        have hxd := hid ((Ext.refl w3).drew_right)
        have xa : (fun w' => Mv w3 w' (DeskF M3)) w3.drew := Mv.of (Ext.refl w3).drew_right
        refine region_J (fun w' => Mv w3 w' (DeskF M3)) 9 (by kernel_rfl) ?_
        generalize w3.drew = da at * 
        refine JR 0 (v := ?va1) rfl (by kernel_rfl) rfl ?ya1 xa ?ra1
        case ya1 => (intro w hw; (go_simp; with_reducible rfl))
        simp only [Act.put, lyA, lyB, lyC, lyD, lyE, lyF]
        refine JR 1 (v := ?va2) rfl (by kernel_rfl) rfl ?ya2 xa ?ra2
        case ya2 => (intro w hw; (go_simp; with_reducible rfl))
        simp only [Act.put, lyA, lyB, lyC, lyD, lyE, lyF]
        refine JR 2 (v := ?va3) rfl (by kernel_rfl) rfl ?ya3 xa ?ra3
        case ya3 => (intro w hw; obtain ⟨a0, a1, a2, a3, a4, a5⟩ := (k23.out.keep (hw.at k23.out.lt hg3.out.2)).c6; obtain ⟨b0, b1, b2, b3, b4, b5⟩ := (k13.out.keep (hw.at k13.out.lt hg3.out.1)).c6; (go_simp; with_reducible rfl))
        simp only [Act.put, lyA, lyB, lyC, lyD, lyE, lyF]
        refine JR 3 (v := ?va4) rfl (by kernel_rfl) rfl ?ya4 xa ?ra4
        case ya4 => (intro w hw; obtain ⟨a0, a1, a2, a3, a4, a5⟩ := (k23.out.keep (hw.at k23.out.lt hg3.out.2)).c6; obtain ⟨b0, b1, b2, b3, b4, b5⟩ := (k13.out.keep (hw.at k13.out.lt hg3.out.1)).c6; (go_simp; with_reducible rfl))
        simp only [Act.put, lyA, lyB, lyC, lyD, lyE, lyF]
        refine JR 4 (v := ?va5) rfl (by kernel_rfl) rfl ?ya5 xa ?ra5
        case ya5 => (intro w hw; (go_simp; with_reducible rfl))
        simp only [Act.put, lyA, lyB, lyC, lyD, lyE, lyF]
        refine JR 5 (v := ?va6) rfl (by kernel_rfl) rfl ?ya6 xa ?ra6
        case ya6 => (intro w hw; obtain ⟨a0, a1, a2, a3, a4, a5⟩ := (k23.out.keep (hw.at k23.out.lt hg3.out.2)).c6; obtain ⟨b0, b1, b2, b3, b4, b5⟩ := (k13.out.keep (hw.at k13.out.lt hg3.out.1)).c6; (go_simp; with_reducible rfl))
        simp only [Act.put, lyA, lyB, lyC, lyD, lyE, lyF]
        refine J_one 6 rfl (by kernel_rfl) (fun K hK => ?_)
        go_simp
        refine (value_any c x.b vals _ (hv3.out.ext hxd.out)).mono ?_
        rintro e wa7 ⟨rfl, hxa7⟩
        have hxv := hid (hxd.out.trans hxa7)
        unfold vl
        refine hK _ _ ⟨fun _ => ((xa).ext hxa7), ?_⟩
        clear hK K
        try simp only [Act.put, lyA, lyB, lyC, lyD, lyE, lyF]
        have xa7 : (fun w' => Mv w3 w' (DeskF M3)) wa7 := ((xa).ext hxa7)
        refine J_one 7 rfl (by kernel_rfl) (fun K hK => ?_)
        go_simp
        refine (deskSet_any i x.s (valOf vals x.b) _ (H3.out.ext hxv.out) hl.2.2 ⟨hl.1, hl.2.1⟩ hin).mono ?_
        rintro e w9 ⟨rfl, M9, H9, m9, f9⟩
        refine hK _ _ ⟨fun _ => ((Mv.of hxv.out).trans m9 (fun k hk => .inl hk)), ?_⟩
        clear hK K
        try simp only [Act.put, lyA, lyB, lyC, lyD, lyE, lyF]
        have xa8 : (fun w' => Mv w3 w' (DeskF M3)) w9 := ((Mv.of hxv.out).trans m9 (fun k hk => .inl hk))
        refine JR 8 (v := ?va9) rfl (by kernel_rfl) rfl ?ya9 xa8 ?ra9
        case ya9 => (intro w hw; (go_simp; with_reducible rfl))
        simp only [Act.put, lyA, lyB, lyC, lyD, lyE, lyF]
        refine J_done (by kernel_rfl) (OnlyOn.normal ?_)
        have hres : Hid (DeskW w w9 lo b 0 p fs (setR p fs vw i x.s (valOf vals x.b)) n0 mode ((i : Int) + 1) M) := hid ⟨M9, H9, m4.out.trans ((Mv.of hxv.out).trans m9 (fun k hk => .inl hk)) (fun k hk => f4.out k hk), fun k hk => (f9 k hk).elim (f4.out k) (fun h => .inr (Nat.le_trans (Nat.le_trans m4.out.size hxv.out.size) h))⟩
        clear H9 m9 f9 H3 m4 f4 k13 k23 hv3
        go_wp2
        go_ret
        exact ⟨by rw [q1.out]; rfl, _, by rw [q2.out]; exact hres.out⟩
      · have h1 : x.op = 1 := h01.resolve_left h0
        obtain ⟨q1, q2⟩ := act_mark (p := p) (fs := fs) (vals := vals) (rs := vw) (x := x) h1 hi.out
        replace q1 := hid q1
        replace q2 := hid q2
        clear H2 h01 h2 h0
        rw [h1] at a0
        replace h1 := hid h1
        go_wp2_with fail
        refine hgo.out.mono ?_
        rintro e w3 ⟨rfl, M3, H3, m3, f3⟩
        clear hgo a0 a1 a2 a3 a4 a5
        have k23 := hid (k2.out.keep (m3.at k2.out.lt hg.out.2))
        have m4 := hid (m2.out.trans m3 (fun k hk => .inl hk))
        have f4 := hid (fun (k : Nat) (hk : DeskF M3 k) => (f3 k hk).imp id (fun h => Nat.le_trans m2.out.size h))
        have hmk := hid (deskMark_any i (!decide (x.c = 0)) w3 H3 hl.2.2 ⟨hl.1, hl.2.1⟩ hin)
        obtain ⟨a0, a1, a2, a3, a4, a5⟩ := k23.out.c6
        rw [h1.out] at a0
        clear m3 f3 k1 k2 hv2 m2 H3
        have hcc := hid (show (x.c != 0) = !decide (x.c = 0) from by by_cases h : x.c = 0 <;> simp [h])
        rw [← hcc.out] at hmk
        go_upto_region 10 with fail
        go_wp2_with fail
        refine hmk.out.mono ?_
        rintro e w9 ⟨rfl, hW⟩
        have hres := hid (DeskW.trans m4.out (fun k hk => f4.out k hk) hW)
        clear hW hmk a0 a1 a2 a3 a4 a5
        go_wp2
        go_ret
        exact ⟨by rw [q1.out]; rfl, _, by rw [q2.out, ← hcc.out]; exact hres.out⟩
    · have h0 : x.op ≠ 0 := fun e => h01 (.inl e)
      have h1 : x.op ≠ 1 := fun e => h01 (.inr e)
      obtain ⟨q1, q2⟩ := act_else (p := p) (fs := fs) (vals := vals) (rs := vw) (x := x) h0 h1 h2
      replace q1 := hid q1
      replace q2 := hid q2
      have n0' : (x.op != 0) = true := by simpa using h0
      have n1' : (x.op != 1) = true := by simpa using h1
      have n2' : (x.op == 2) = false := by simpa using h2
      have hres := hid (DeskW.of H2.out m2.out)
      clear h0 h1 h2 h01 H2
      go_wp2
      go_ret
      exact ⟨by rw [q1.out]; rfl, _, by rw [q2.out]; exact hres.out⟩
end
open Go.RowKit Go.Shelf Go.MuLone
section
variable {w w' : World} {lo b : Nat} {s p : Int} {fs : List Fd} {r0 rs rs' : List Rc} {L : Lm}
theorem LogI.turnT {u : Tt} (h : LogI w lo b s p fs r0 rs L) (hU : OwTt w' lo fs.length fs rs' u) (hL : LkT L.t u) (hm : Mv w w' L.t.F) : LogI w' lo b s p fs r0 rs' { L with t := u } := by
  have hb := h.bk.keep (hm.at h.bk.lt h.nb)
  refine h.now ?_ hU (fun k hk => .inl (hL.2.2.2.2.2.2 k hk)) (hm.mono (fun k e => .inr e))
  obtain ⟨q1, q2, q3, q4, q5, q6, -⟩ := hL
  unfold logC at hb ⊢
  simp only
  rw [q1, q2, q3, q4, q5, q6]
  exact hb
theorem LogF.turnT {b k : Nat} {u : Tt} (hL : LkT L.t u) (hk : LogF b { L with t := u } k) : LogF b L k := by
  rcases hk with e | e | e
  · exact .inl e
  · exact .inr (.inl (hL.2.2.2.2.2.2 k e))
  · exact .inr (.inr e)
end
section
variable {lo b : Nat} {s p : Int} {fs : List Fd} {r0 rs : List Rc} {L : Lm}
theorem logMark_any (i : Nat) (q : Bool) (w : World) (H : LogI w lo b 0 p fs r0 rs L) (hE0 : okT p fs r0) (hE : okT p fs rs) (hl : L.ln = 1) (hi : i < rs.length) : Calls Tryz.prog 49 #[.pointer (some ⟨b, 0, none⟩), .int .i64 ((i : Int) + 1), .bool q] w fun e w' =>
    e = .returned (.int .i64 0) ∧ LogTo w w' lo b 0 p fs r0 (markAt rs i q) L := by
  have hr := hE.len.2.2
  have hq := hid (enterL_any b w (H.bk.at rfl) (H.bk.free 0))
  have H1 := hid (H.turn 1)
  have m1 := hid ((Mv.refl (w := w) (F := LogF b L)).set (.inl (.inl rfl)) 0 (.int .i32 1))
  have hE2 := hid (hE.set (okT_markAt hE q hi) i)
  have hE0 := hid hE0
  have hl := hid hl
  clear H hE
  go_enter_defers Tryz.func49, Tryz.ntmps49
  go_wp2_with fail
  refine hq.out.mono ?_
  rintro e w2 ⟨rfl, hx2⟩
  have H2 := hid (H1.out.ext hx2)
  have m2 := hid (m1.out.ext hx2)
  clear hq hx2 H1 m1
  have hit := hid (isThere_any ((i : Int) + 1) w2 H2.out)
  rw [show (decide (1 ≤ (i : Int) + 1) && decide ((i : Int) + 1 ≤ rs.length)) = true by simp; omega] at hit
  go_wp2_with fail
  refine hit.out.mono ?_
  rintro e w3 ⟨rfl, hx3⟩
  have H3 := hid (H2.out.ext hx3)
  have m3 := hid (m2.out.ext hx3)
  clear hit hx3 H2 m2
  obtain ⟨a0, a2, a3, a4, a5, a6, a7, a8, a9, a10⟩ := H3.out.c
  obtain ⟨gB, eB, hg1, hg2, z0, r1, hv⟩ := H3.out.ow.at_ hi
  rw [eB] at a4
  have fz : w3.frozen? ⟨gB, i * 2, none⟩ = false := by
    have h1 := H3.out.ow.2.1.1
    rw [H3.out.ow.2.2.1, eB] at h1
    exact (row_there (o := i * 2) (s := 1) h1 (by omega) 0 (by omega)).2
  have hgF := hid (show L.t.F gB from .inr (.inl (by rw [eB]; rfl)))
  have i3 := IntWalk.i64_in ((i : Int) + 1 - 1) (by omega)
  have i4 := IntWalk.i64_in (i : Int) (by omega)
  have i5 : 0 ≤ (i : Int) ∧ (i : Int) < rs.length := by omega
  clear r1 hv a0 a2 a3 a5 a6 a7 a8 a9 a10
  go_upto_region 8 with fail
  have hL4 : LkT L.t ⟨L.t.A, L.t.n, L.t.c, L.t.B, L.t.m, L.t.d, L.t.rr.set i ⟨q, (rrth L.t.rr i).A, (rrth L.t.rr i).n, (rrth L.t.rr i).c⟩⟩ := ⟨rfl, rfl, rfl, rfl, rfl, rfl, fun k hk => OwTt.turnG_F hk⟩
  have H4 := hid (H3.out.turnT (H3.out.ow.turnG hi eB q) hL4 ((Mv.refl (w := w3) (F := L.t.F)).set (.inl hgF.out) (i * 2) (.bool q)))
  have m4 := hid (m3.out.set (g := gB) (.inl (.inr (.inl hgF.out))) (i * 2) (.bool q))
  replace hL4 := hid hL4
  clear H3 m3 z0 fz a4
  generalize w3.setCell ⟨gB, i * 2, none⟩ (.bool q) = w4 at *
  have hcm := hid (commit_any w4 H4.out hE0.out hE2.out hl.out)
  go_wp2_with fail
  refine hcm.out.mono ?_
  rintro e w5 ⟨rfl, hx5⟩
  have hres : Hid (LogTo w w5 lo b 1 p fs r0 (markAt rs i q) L) := hid ⟨_, H4.out.ext hx5, rfl, m4.out.ext hx5, fun k hk => .inl (LogF.turnT hL4.out hk)⟩
  have c0 := hid hres.out.c0.1
  have g0 := hid hres.out.c0.2
  replace hres := hid hres.out.unlock
  clear hcm hx5 H4 m4
  go_wp2
  refine leaves_cons (f := 57) (args := #[.pointer (some ⟨b, 0, none⟩)]) (by simp) (by simp [go_sem]) ?_
  refine (unlock_deferred muLib ⟨b, 0, none⟩ .returning _ c0.out g0.out).mono ?_
  rintro e u' w'' ⟨rfl, rfl, rfl⟩
  exact ⟨_, results_tmp rfl _ _ _, rfl, hres.out⟩
theorem logSet_any (i : Nat) (nm : ByteArray) (y : Vl) (w : World) (H : LogI w lo b 0 p fs r0 rs L) (hE0 : okT p fs r0) (hE : okT p fs rs) (hl : L.ln = 1) (hi : i < rs.length) : Calls Tryz.prog 48 #[.pointer (some ⟨b, 0, none⟩), .int .i64 ((i : Int) + 1), .string nm, vl y] w fun e w' =>
    e = .returned (.int .i64 (setE p fs nm y)) ∧ LogTo w w' lo b 0 p fs r0 (setR p fs rs i nm y) L := by
  have hr := hE.len.2.2
  have hf := hE.len
  obtain ⟨w1, g, e1, h1, s1, k1, x1⟩ := newB w [.int .i64 y.k, .int .i64 y.n, .string y.s] 66
  have H1 := H.ext x1
  have hq := hid (enterL_any b w1 (H1.bk.at rfl) (H1.bk.free 0))
  have H2 := hid (H1.turn 1)
  have m2 := hid ((Mv.of (F := LogF b L) x1).set (.inl (.inl rfl)) 0 (.int .i32 1))
  have hg := hid (show ¬ LogF b L g from fun e => by have := (H.lt e).2; have := h1.out; omega)
  have k2 := hid (k1.other (g := b) (fun e => hg.out (.inl e)) 0 (.int .i32 1))
  have hwg := hid (show w.heap.size ≤ g from by have := h1.out; omega)
  have hE := hid hE
  have hE0 := hid hE0
  have hl := hid hl
  clear H H1 k1 x1 s1
  unfold vl
  go_enter_defers Tryz.func48, Tryz.ntmps48
  go_upto_region 1 with fail
  simp only [e1.out, h1.out]
  clear e1 h1
  go_wp2_with fail
  refine hq.out.mono ?_
  rintro e w2 ⟨rfl, hx2⟩
  have H3 := hid (H2.out.ext hx2)
  have m3 := hid (m2.out.ext hx2)
  have k3 := hid (k2.out.ext hx2)
  clear hq hx2 H2 m2 k2
  obtain ⟨a0, a2, a3, a4, a5, a6, a7, a8, a9, a10⟩ := H3.out.c
  have hix := hid (Index_any L.t.A fs.length L.t.c fs nm w2 H3.out.rf')
  go_wp2_with fail
  refine hix.out.mono ?_
  rintro e w3 ⟨rfl, hx3⟩
  have H4 := hid (H3.out.ext hx3)
  have m4 := hid (m3.out.ext hx3)
  have k4 := hid (k3.out.ext hx3)
  clear hix hx3 H3 m3 k3 a0 a2 a3 a4 a5 a6 a7 a8 a9 a10
  by_cases hn : ixN fs nm < 0
  · have hd : decide (0 ≤ ixN fs nm) = false := by simp; omega
    have hE1 := hid (show setE p fs nm y = 4 from if_pos hn)
    have hR := hid (show setR p fs rs i nm y = rs from if_pos hn)
    have hres : Hid (LogTo w w3 lo b 1 p fs r0 rs L) := hid (LogTo.of H4.out m4.out)
    have c0 := hid hres.out.c0.1
    have g0 := hid hres.out.c0.2
    replace hres := hid hres.out.unlock
    rw [← hR.out] at hres
    clear H4 m4 k4 hR hn
    rw [hd]
    go_wp2
    refine leaves_cons (f := 57) (args := #[.pointer (some ⟨b, 0, none⟩)]) (by simp) (by simp [go_sem]) ?_
    refine (unlock_deferred muLib ⟨b, 0, none⟩ .returning _ c0.out g0.out).mono ?_
    rintro e u' w'' ⟨rfl, rfl, rfl⟩
    exact ⟨_, results_tmp rfl _ _ _, by rw [hE1.out]; rfl, hres.out⟩
  · obtain ⟨k, hk, hkl⟩ : ∃ k : Nat, ixN fs nm = k ∧ k < fs.length := ⟨_, (by omega : _ = (((ixN fs nm).toNat : Nat) : Int)), ixN_lt hn⟩
    have hd : decide (0 ≤ ixN fs nm) = true := by simp; omega
    have hmx : max (ixN fs nm) 0 = (k : Int) := by omega
    have hE1 := hid (show setE p fs nm y = (fitR (fth fs k) p y).2 from by unfold setE; rw [if_neg hn, hk]; rfl)
    have hR := hid (show setR p fs rs i nm y = if (fitR (fth fs k) p y).2 ≠ 0 then rs else setAt rs i k (fitR (fth fs k) p y).1 from by unfold setR; rw [if_neg hn, hk]; rfl)
    have hkl := hid hkl
    have ik : 0 ≤ (k : Int) ∧ (k : Int) < fs.length := by have := hkl.out; omega
    obtain ⟨gA, eA, -⟩ : ∃ g, L.t.A = some g ∧ True := by
      obtain ⟨ad, e, -⟩ := H4.out.rf'.at_ hkl.out
      exact ⟨ad, e, trivial⟩
    have hit := hid (isThere_any ((i : Int) + 1) w3 H4.out)
    rw [show (decide (1 ≤ (i : Int) + 1) && decide ((i : Int) + 1 ≤ rs.length)) = true by simp; omega] at hit
    rw [hd, hmx]
    clear hn hk hmx
    go_wp2_with fail
    refine hit.out.mono ?_
    rintro e w5 ⟨rfl, hx5⟩
    have H5 := hid (H4.out.ext hx5)
    have m5 := hid (m4.out.ext hx5)
    have k5 := hid (k4.out.ext hx5)
    clear hit hx5 H4 m4 k4
    go_upto_region 8 with fail
    have hft := hid (fun w' => Fit_any (fth fs k) p y w')
    unfold vl at hft
    have xa := (Ext.refl w5).drew_right
    refine region_K (fun w' => Ext w5 w') 18 (by kernel_rfl) ?_
    generalize w5.drew = da at xa ⊢
    refine KF 0 (v := ?va1) rfl (by kernel_rfl) rfl ?ya1 (.inr xa) ?ra1
    case ya1 => (intro w; (go_simp; with_reducible rfl))
    simp only [Act.put, lyA, lyB, lyC, lyD, lyE, lyF]
    refine KF 1 (v := ?va2) rfl (by kernel_rfl) rfl ?ya2 (.inr xa) ?ra2
    case ya2 => (intro w; (go_simp; with_reducible rfl))
    simp only [Act.put, lyA, lyB, lyC, lyD, lyE, lyF]
    refine KF 2 (v := ?va3) rfl (by kernel_rfl) rfl ?ya3 (.inr xa) ?ra3
    case ya3 => (intro w; (go_simp; with_reducible rfl))
    simp only [Act.put, lyA, lyB, lyC, lyD, lyE, lyF]
    refine KF 3 (v := ?va4) rfl (by kernel_rfl) rfl ?ya4 (.inr xa) ?ra4
    case ya4 => (intro w; (go_simp; with_reducible rfl))
    simp only [Act.put, lyA, lyB, lyC, lyD, lyE, lyF]
    refine KT 4 (v := ?va5) rfl (by kernel_rfl) rfl ?ya5 xa ?ra5
    case ya5 => (intro w hw; obtain ⟨a0, a2, a3, a4, a5, a6, a7, a8, a9, a10⟩ := (H5.out.ext hw).c; rw [eA] at a3; obtain ⟨_, eA2, x0, x1, x2, x3⟩ := (H5.out.ext hw).rf'.at_ hkl.out; rw [eA] at eA2; injection eA2 with eA2; subst eA2; obtain ⟨q0, q1, q2⟩ := (k5.out.ext hw).c3; (go_simp; with_reducible rfl))
    simp only [Act.put, lyA, lyB, lyC, lyD, lyE, lyF]
    refine KF 5 (v := ?va6) rfl (by kernel_rfl) rfl ?ya6 (.inr xa) ?ra6
    case ya6 => (intro w; (go_simp; with_reducible rfl))
    simp only [Act.put, lyA, lyB, lyC, lyD, lyE, lyF]
    refine KF 6 (v := ?va7) rfl (by kernel_rfl) rfl ?ya7 (.inr xa) ?ra7
    case ya7 => (intro w; (go_simp; with_reducible rfl))
    simp only [Act.put, lyA, lyB, lyC, lyD, lyE, lyF]
    refine KT 7 (v := ?va8) rfl (by kernel_rfl) rfl ?ya8 xa ?ra8
    case ya8 => (intro w hw; obtain ⟨a0, a2, a3, a4, a5, a6, a7, a8, a9, a10⟩ := (H5.out.ext hw).c; rw [eA] at a3; obtain ⟨_, eA2, x0, x1, x2, x3⟩ := (H5.out.ext hw).rf'.at_ hkl.out; rw [eA] at eA2; injection eA2 with eA2; subst eA2; obtain ⟨q0, q1, q2⟩ := (k5.out.ext hw).c3; (go_simp; with_reducible rfl))
    simp only [Act.put, lyA, lyB, lyC, lyD, lyE, lyF]
    refine KF 8 (v := ?va9) rfl (by kernel_rfl) rfl ?ya9 (.inr xa) ?ra9
    case ya9 => (intro w; (go_simp; with_reducible rfl))
    simp only [Act.put, lyA, lyB, lyC, lyD, lyE, lyF]
    refine KF 9 (v := ?va10) rfl (by kernel_rfl) rfl ?ya10 (.inr xa) ?ra10
    case ya10 => (intro w; (go_simp; with_reducible rfl))
    simp only [Act.put, lyA, lyB, lyC, lyD, lyE, lyF]
    refine KF 10 (v := ?va11) rfl (by kernel_rfl) rfl ?ya11 (.inr xa) ?ra11
    case ya11 => (intro w; (go_simp; with_reducible rfl))
    simp only [Act.put, lyA, lyB, lyC, lyD, lyE, lyF]
    refine KF 11 (v := ?va12) rfl (by kernel_rfl) rfl ?ya12 (.inr xa) ?ra12
    case ya12 => (intro w; (go_simp; with_reducible rfl))
    simp only [Act.put, lyA, lyB, lyC, lyD, lyE, lyF]
    refine KT 12 (v := ?va13) rfl (by kernel_rfl) rfl ?ya13 xa ?ra13
    case ya13 => (intro w hw; obtain ⟨a0, a2, a3, a4, a5, a6, a7, a8, a9, a10⟩ := (H5.out.ext hw).c; rw [eA] at a3; obtain ⟨_, eA2, x0, x1, x2, x3⟩ := (H5.out.ext hw).rf'.at_ hkl.out; rw [eA] at eA2; injection eA2 with eA2; subst eA2; obtain ⟨q0, q1, q2⟩ := (k5.out.ext hw).c3; (go_simp; with_reducible rfl))
    simp only [Act.put, lyA, lyB, lyC, lyD, lyE, lyF]
    refine KT 13 (v := ?va14) rfl (by kernel_rfl) rfl ?ya14 xa ?ra14
    case ya14 => (intro w hw; obtain ⟨a0, a2, a3, a4, a5, a6, a7, a8, a9, a10⟩ := (H5.out.ext hw).c; rw [eA] at a3; obtain ⟨_, eA2, x0, x1, x2, x3⟩ := (H5.out.ext hw).rf'.at_ hkl.out; rw [eA] at eA2; injection eA2 with eA2; subst eA2; obtain ⟨q0, q1, q2⟩ := (k5.out.ext hw).c3; (go_simp; with_reducible rfl))
    simp only [Act.put, lyA, lyB, lyC, lyD, lyE, lyF]
    refine K_one 14 rfl (by kernel_rfl) (fun K hK => ?_)
    go_simp
    refine (hft.out _).mono ?_
    rintro e9 wa15 ⟨rfl, hxa15⟩
    unfold vl
    refine hK _ _ ⟨fun _ _ => ((xa).trans hxa15), ?_⟩
    clear hK K
    try simp only [Act.put, lyA, lyB, lyC, lyD, lyE, lyF]
    have xa15 := ((xa).trans hxa15)
    refine KF 15 (v := ?va16) rfl (by kernel_rfl) rfl ?ya16 (.inr xa15) ?ra16
    case ya16 => (intro w; (go_simp; with_reducible rfl))
    simp only [Act.put, lyA, lyB, lyC, lyD, lyE, lyF]
    refine KF 16 (v := ?va17) rfl (by kernel_rfl) rfl ?ya17 (.inr xa15) ?ra17
    case ya17 => (intro w; (go_simp; with_reducible rfl))
    simp only [Act.put, lyA, lyB, lyC, lyD, lyE, lyF]
    refine KF 17 (v := ?va18) rfl (by kernel_rfl) rfl ?ya18 (.inr xa15) ?ra18
    case ya18 => (intro w; (go_simp; with_reducible rfl))
    simp only [Act.put, lyA, lyB, lyC, lyD, lyE, lyF]
    refine K_end 18 rfl (by kernel_rfl) (by kernel_rfl) (fun K hK => ?_)
    have x8 := hid (xa15)
    have hb8 := (k5.out.ext x8.out).hb
    refine step_store0 rfl 66 _ _ rfl g [.int .i64 (fitR (fth fs k) p y).1.k, .int .i64 (fitR (fth fs k) p y).1.n, .string (fitR (fth fs k) p y).1.s] rfl rfl hb8 (by kernel_rfl) (by first | rfl | simp [Value.oneCell']) ?_
    refine hK _ _ ?_
    obtain ⟨w9, e9, k9, s9, o9, mv9⟩ := store_bk (k5.out.ext x8.out) [.int .i64 (fitR (fth fs k) p y).1.k, .int .i64 (fitR (fth fs k) p y).1.n, .string (fitR (fth fs k) p y).1.s] rfl
    rw [e9]
    clear hK K
    try simp only [Act.put, lyA, lyB, lyC, lyD, lyE, lyF]
    refine KF 19 (v := ?va20) rfl (by kernel_rfl) rfl ?ya20 (.inl (by kernel_rfl)) ?ra20
    case ya20 => (intro w; (go_simp; with_reducible rfl))
    simp only [Act.put, lyA, lyB, lyC, lyD, lyE, lyF]
    refine K_done (by kernel_rfl) (OnlyOn.normal ?_)
    have H9 := hid ((H5.out.ext x8.out).keep (fun q hq => o9 q (fun e => hg.out (e ▸ hq))) (by rw [s9]; exact Nat.le_refl _))
    have m9 := hid (mv9 _ _ (m5.out.ext x8.out) (.inr hwg.out))
    have k9 := hid k9
    have hft2 := hid (fun h => fit_holds (f := fth fs k) (p := p) (x := y) h)
    clear H5 m5 k5 x8 hb8 e9 s9 o9 mv9 hft
    generalize fitR (fth fs k) p y = r at *
    obtain ⟨v, er⟩ := r
    simp only at *
    by_cases her : er = 0
    · subst her
      rw [if_neg (by simp)] at hR
      have hE2 := hid (hE.out.set (okT_setAt hE.out (k := k) (v := v) hi (hft2.out rfl)) i)
      obtain ⟨gB, eB, hg1, hg2, z0, z1, hv⟩ := H9.out.ow.at_ hi
      obtain ⟨e1, e2, e3, gV, eV, hrow⟩ := hv
      have hrb := hid (show rb (rrth L.t.rr i) = gV from by unfold rb; rw [eV]; rfl)
      have hrow := hid hrow
      have hgF := hid (show L.t.F gV from .inr (.inr ⟨i, by have := H9.out.ow.2.2.1; omega, hrb.out⟩))
      rw [eV] at z1
      have z1 := hid z1
      have eB := hid eB
      have i3 := IntWalk.i64_in ((i : Int) + 1 - 1) (by omega)
      have i4 := IntWalk.i64_in (i : Int) (by omega)
      have i5 : 0 ≤ (i : Int) ∧ (i : Int) < rs.length := by omega
      clear e1 e2 e3 eV z0 hft2
      go_upto_region 11 with fail
      have xb := (Ext.refl w9).drew_right
      refine region_J (fun w' => Ext w9 w') 13 (by kernel_rfl) ?_
      generalize w9.drew = db at xb ⊢
      refine JW 0 (v := ?vb1) rfl (by kernel_rfl) rfl ?yb1 xb ?rb1
      case yb1 => (intro w hw; (go_simp; with_reducible rfl))
      simp only [Act.put, lyA, lyB, lyC, lyD, lyE, lyF]
      refine JW 1 (v := ?vb2) rfl (by kernel_rfl) rfl ?yb2 xb ?rb2
      case yb2 => (intro w hw; (go_simp; with_reducible rfl))
      simp only [Act.put, lyA, lyB, lyC, lyD, lyE, lyF]
      refine JW 2 (v := ?vb3) rfl (by kernel_rfl) rfl ?yb3 xb ?rb3
      case yb3 => (intro w hw; (go_simp; with_reducible rfl))
      simp only [Act.put, lyA, lyB, lyC, lyD, lyE, lyF]
      refine JW 3 (v := ?vb4) rfl (by kernel_rfl) rfl ?yb4 xb ?rb4
      case yb4 => (intro w hw; (go_simp; with_reducible rfl))
      simp only [Act.put, lyA, lyB, lyC, lyD, lyE, lyF]
      refine JW 4 (v := ?vb5) rfl (by kernel_rfl) rfl ?yb5 xb ?rb5
      case yb5 => (intro w hw; obtain ⟨a0, a2, a3, a4, a5, a6, a7, a8, a9, a10⟩ := (H9.out.ext hw).c; rw [eB.out] at a4; obtain ⟨q0, q1, q2⟩ := (k9.out.ext hw).c3; have y1 := hw.cell z1.out; (go_simp; with_reducible rfl))
      simp only [Act.put, lyA, lyB, lyC, lyD, lyE, lyF]
      refine JW 5 (v := ?vb6) rfl (by kernel_rfl) rfl ?yb6 xb ?rb6
      case yb6 => (intro w hw; (go_simp; with_reducible rfl))
      simp only [Act.put, lyA, lyB, lyC, lyD, lyE, lyF]
      refine JW 6 (v := ?vb7) rfl (by kernel_rfl) rfl ?yb7 xb ?rb7
      case yb7 => (intro w hw; (go_simp; with_reducible rfl))
      simp only [Act.put, lyA, lyB, lyC, lyD, lyE, lyF]
      refine JW 7 (v := ?vb8) rfl (by kernel_rfl) rfl ?yb8 xb ?rb8
      case yb8 => (intro w hw; (go_simp; with_reducible rfl))
      simp only [Act.put, lyA, lyB, lyC, lyD, lyE, lyF]
      refine JW 8 (v := ?vb9) rfl (by kernel_rfl) rfl ?yb9 xb ?rb9
      case yb9 => (intro w hw; (go_simp; with_reducible rfl))
      simp only [Act.put, lyA, lyB, lyC, lyD, lyE, lyF]
      refine JW 9 (v := ?vb10) rfl (by kernel_rfl) rfl ?yb10 xb ?rb10
      case yb10 => (intro w hw; obtain ⟨a0, a2, a3, a4, a5, a6, a7, a8, a9, a10⟩ := (H9.out.ext hw).c; rw [eB.out] at a4; obtain ⟨q0, q1, q2⟩ := (k9.out.ext hw).c3; have y1 := hw.cell z1.out; (go_simp; with_reducible rfl))
      simp only [Act.put, lyA, lyB, lyC, lyD, lyE, lyF]
      refine JW 10 (v := ?vb11) rfl (by kernel_rfl) rfl ?yb11 xb ?rb11
      case yb11 => (intro w hw; (go_simp; with_reducible rfl))
      simp only [Act.put, lyA, lyB, lyC, lyD, lyE, lyF]
      refine JW 11 (v := ?vb12) rfl (by kernel_rfl) rfl ?yb12 xb ?rb12
      case yb12 => (intro w hw; obtain ⟨a0, a2, a3, a4, a5, a6, a7, a8, a9, a10⟩ := (H9.out.ext hw).c; rw [eB.out] at a4; obtain ⟨q0, q1, q2⟩ := (k9.out.ext hw).c3; have y1 := hw.cell z1.out; (go_simp; with_reducible rfl))
      simp only [Act.put, lyA, lyB, lyC, lyD, lyE, lyF]
      refine JW 12 (v := ?vb13) rfl (by kernel_rfl) rfl ?yb13 xb ?rb13
      case yb13 => (intro w hw; (go_simp; with_reducible rfl))
      simp only [Act.put, lyA, lyB, lyC, lyD, lyE, lyF]
      refine J_one 13 rfl (by kernel_rfl) (fun K hK => ?_)
      have hth : db.there gV (k * 3) 3 := row_there ((xb).own hrow.out) (by have := hkl.out; omega)
      have hX := hid (xb)
      refine step_store_mid rfl 66 _ _ rfl gV (k * 3) #[.int .i64 v.k, .int .i64 v.n, .string v.s] rfl rfl hth (by kernel_rfl) (by first | rfl | simp [Value.oneCell']) ?_
      refine hK _ _ ⟨fun h => absurd rfl h, ?_⟩
      clear hK K
      try simp only [Act.put, lyA, lyB, lyC, lyD, lyE, lyF]
      refine J_done (by kernel_rfl) (OnlyOn.normal ?_)
      have hU := (H9.out.ow.ext hX.out).turnV hi hkl.out v
      rw [hrb.out] at hU
      have H10 := hid (H9.out.turnT hU (LkT.refl _) ((Mv.of (F := L.t.F) hX.out).setC (.inl hgF.out) (k * 3) (vcl v)))
      have m10 := hid ((m9.out.ext hX.out).setC (g := gV) (.inl (.inr (.inl hgF.out))) (k * 3) (vcl v))
      clear hU hth H9 m9 k9 hrow z1
      change Exit.then _ _ _ _ (World.setCells _ gV (k * 3) (vcl v))
      generalize World.setCells db gV (k * 3) (vcl v) = w11 at *
      have hcm := hid (commit_any w11 H10.out hE0.out hE2.out hl.out)
      go_wp2_with fail
      refine hcm.out.mono ?_
      rintro e w12 ⟨rfl, hx12⟩
      have hres : Hid (LogTo w w12 lo b 1 p fs r0 (setAt rs i k v) L) := hid ⟨_, H10.out.ext hx12, rfl, m10.out.ext hx12, fun k hk => .inl hk⟩
      have c0 := hid hres.out.c0.1
      have g0 := hid hres.out.c0.2
      replace hres := hid hres.out.unlock
      clear hcm hx12 H10 m10
      go_wp2
      refine leaves_cons (f := 57) (args := #[.pointer (some ⟨b, 0, none⟩)]) (by simp) (by simp [go_sem]) ?_
      refine (unlock_deferred muLib ⟨b, 0, none⟩ .returning _ c0.out g0.out).mono ?_
      rintro e u' w'' ⟨rfl, rfl, rfl⟩
      exact ⟨_, results_tmp rfl _ _ _, by rw [hE1.out]; rfl, by rw [hR.out]; exact hres.out⟩
    · have her2 : (er != 0) = true := by simpa using her
      rw [if_pos her] at hR
      have hres : Hid (LogTo w w9 lo b 1 p fs r0 rs L) := hid (LogTo.of H9.out m9.out)
      have c0 := hid hres.out.c0.1
      have g0 := hid hres.out.c0.2
      replace hres := hid hres.out.unlock
      clear H9 m9 k9 her
      go_wp2
      refine leaves_cons (f := 57) (args := #[.pointer (some ⟨b, 0, none⟩)]) (by simp) (by simp [go_sem]) ?_
      refine (unlock_deferred muLib ⟨b, 0, none⟩ .returning _ c0.out g0.out).mono ?_
      rintro e u' w'' ⟨rfl, rfl, rfl⟩
      exact ⟨_, results_tmp rfl _ _ _, by rw [hE1.out]; rfl, by rw [hR.out]; exact hres.out⟩
end
open Go.RowKit Go.Shelf Go.MuLone
section
variable {lo b : Nat} {s p : Int} {fs : List Fd} {r0 rs : List Rc} {L : Lm}
theorem logAppend_any (er : Int) (rs' : List Rc) (x : Rc) (C : Option Addr) (cv : Nat) (w : World) (H : LogI w lo b 0 p fs r0 rs L) (hE0 : okT p fs r0) (hE : okT p fs rs) (hl : L.ln = 1) (hx : recE fs p x = 0) (hv : RdV w C fs.length cv x.v) (hvb : ¬ atB C fs.length b)
    (h0 : er = 0 → rs' = rs ++ [x] ∧ rs.length < 300) (h3 : er ≠ 0 → er = 3 ∧ rs' = rs ∧ rs.length = 300) :
    Calls Tryz.prog 50 #[.pointer (some ⟨b, 0, none⟩), .agg #[.bool x.gone, .slice C fs.length cv]] w fun e w' => (∃ z : Int, e = .returned (.tuple #[.int .i64 z, .int .i64 er])) ∧ LogTo w w' lo b 0 p fs r0 rs' L := by
  have hr := hE.len
  obtain ⟨w1, g, e1, h1, s1, k1, x1⟩ := newB w [.bool x.gone, .slice C fs.length cv] 69
  have H1 := H.ext x1
  have hq := hid (enterL_any b w1 (H1.bk.at rfl) (H1.bk.free 0))
  have H2 := hid (H1.turn 1)
  have m2 := hid ((Mv.of (F := LogF b L) x1).set (.inl (.inl rfl)) 0 (.int .i32 1))
  have hg := hid (show ¬ LogF b L g from fun e => by have := (H.lt e).2; have := h1.out; omega)
  have k2 := hid (k1.other (g := b) (fun e => hg.out (.inl e)) 0 (.int .i32 1))
  have hwg := hid (show w.heap.size ≤ g from by have := h1.out; omega)
  have hv2 := hid ((hv.ext x1).keepB (w' := w1.setCell ⟨b, 0, none⟩ (.int .i32 1)) (fun q hq => (setCell_at w1 b 0 _).2 q (fun e => hvb (e ▸ hq))))
  have hlt := hid (fun (k : Nat) (hk : LogF b L k) => H.lt hk)
  have hvl := hid (vtE_one hE hx)
  have hE := hid hE
  have hE0 := hid hE0
  have hl := hid hl
  have hxl := hid (recE_len hx)
  have hx := hid hx
  have h0 := hid h0
  have h3 := hid h3
  clear H H1 k1 x1 s1 hv
  go_enter_defers Tryz.func50, Tryz.ntmps50
  go_upto_region 1 with fail
  simp only [e1.out, h1.out]
  clear e1 h1
  go_wp2_with fail
  refine hq.out.mono ?_
  rintro e w2 ⟨rfl, hx2⟩
  have H3 := hid (H2.out.ext hx2)
  have m3 := hid (m2.out.ext hx2)
  have k3 := hid (k2.out.ext hx2)
  have hv3 := hid (hv2.out.ext hx2)
  clear hq hx2 H2 m2 k2 hv2
  obtain ⟨a0, a2, a3, a4, a5, a6, a7, a8, a9, a10⟩ := H3.out.c
  by_cases he : er = 0
  · obtain ⟨hrs, hlt3⟩ := h0.out he
    subst he
    subst hrs
    have i1 : ¬ (300 : Int) ≤ (rs.length : Int) := by omega
    have hE2 := hid (hE.out.app hx.out hlt3)
    obtain ⟨q0, q1⟩ := k3.out.c2
    have hft := hid (fits_any x C fs.length cv w2 H3.out hv3.out)
    rw [hvl.out] at hft
    clear h0 h3 hvl
    go_wp2_with fail
    refine hft.out.mono ?_
    rintro e w6 ⟨rfl, hx6⟩
    have H6 := hid (H3.out.ext hx6)
    have m6 := hid (m3.out.ext hx6)
    have k6 := hid (k3.out.ext hx6)
    have hv6 := hid (hv3.out.ext hx6)
    clear hft hx6 H3 m3 k3 hv3 a0 a2 a3 a4 a5 a6 a7 a8 a9 a10 q0 q1
    go_upto_region 10 with fail
    have em := hid H6.out.ow.2.2.2.1
    have nbF := hid H6.out.nb
    have hob := hid (fun k (hk : (Value.slice L.t.B rs.length L.t.d).ownBlock = some k) => (show L.t.F k from .inr (.inl (by rw [em.out]; exact hk))))
    have hlt2 := hid (fun (k : Nat) (hk : L.t.F k) => hlt.out k (.inr (.inl hk)))
    have hO := H6.out.ow.ext (Ext.refl w6).drew_right
    have hws0 := hid m6.out.size
    have hlo := hid H6.out.lb
    have hbw := hid (hlt.out b (.inl rfl))
    have hv6l := hid (fun q (hq : atB C fs.length q) => hv6.out.atlt hq)
    have hxd := hid ((Ext.refl w6).drew_right)
    have xa : (fun w' => Mv w6 w' (fun k => (Value.slice L.t.B rs.length L.t.d).ownBlock = some k)) w6.drew := (Mv.of (Ext.refl w6).drew_right)
    refine region_J (fun w' => Mv w6 w' (fun k => (Value.slice L.t.B rs.length L.t.d).ownBlock = some k)) 17 (by kernel_rfl) ?_
    generalize w6.drew = da at * 
    refine JW 0 (v := ?va1) rfl (by kernel_rfl) rfl ?ya1 xa ?ra1
    case ya1 => (intro w hw; (go_simp; with_reducible rfl))
    simp only [Act.put, lyA, lyB, lyC, lyD, lyE, lyF]
    refine JW 1 (v := ?va2) rfl (by kernel_rfl) rfl ?ya2 xa ?ra2
    case ya2 => (intro w hw; (go_simp; with_reducible rfl))
    simp only [Act.put, lyA, lyB, lyC, lyD, lyE, lyF]
    refine JW 2 (v := ?va3) rfl (by kernel_rfl) rfl ?ya3 xa ?ra3
    case ya3 => (intro w hw; (go_simp; with_reducible rfl))
    simp only [Act.put, lyA, lyB, lyC, lyD, lyE, lyF]
    refine JW 3 (v := ?va4) rfl (by kernel_rfl) rfl ?ya4 xa ?ra4
    case ya4 => (intro w hw; (go_simp; with_reducible rfl))
    simp only [Act.put, lyA, lyB, lyC, lyD, lyE, lyF]
    refine JW 4 (v := ?va5) rfl (by kernel_rfl) rfl ?ya5 xa ?ra5
    case ya5 => (intro w hw; (go_simp; with_reducible rfl))
    simp only [Act.put, lyA, lyB, lyC, lyD, lyE, lyF]
    refine JW 5 (v := ?va6) rfl (by kernel_rfl) rfl ?ya6 xa ?ra6
    case ya6 => (intro w hw; have hb := H6.out.bk.keep (hw.at H6.out.bk.lt (fun e => nbF.out (hob.out b e))); have a4 : w.cell? ⟨b, 4, none⟩ = some (.slice L.t.B rs.length L.t.d) := (by rw [← em.out]; exact hb.at rfl); obtain ⟨q0, q1⟩ := (k6.out.keep (hw.at k6.out.lt (fun e => hg.out (.inr (.inl (hob.out g e)))))).c2; (go_simp; with_reducible rfl))
    simp only [Act.put, lyA, lyB, lyC, lyD, lyE, lyF]
    refine JW 6 (v := ?va7) rfl (by kernel_rfl) rfl ?ya7 xa ?ra7
    case ya7 => (intro w hw; (go_simp; with_reducible rfl))
    simp only [Act.put, lyA, lyB, lyC, lyD, lyE, lyF]
    refine JW 7 (v := ?va8) rfl (by kernel_rfl) rfl ?ya8 xa ?ra8
    case ya8 => (intro w hw; have hb := H6.out.bk.keep (hw.at H6.out.bk.lt (fun e => nbF.out (hob.out b e))); have a4 : w.cell? ⟨b, 4, none⟩ = some (.slice L.t.B rs.length L.t.d) := (by rw [← em.out]; exact hb.at rfl); obtain ⟨q0, q1⟩ := (k6.out.keep (hw.at k6.out.lt (fun e => hg.out (.inr (.inl (hob.out g e)))))).c2; (go_simp; with_reducible rfl))
    simp only [Act.put, lyA, lyB, lyC, lyD, lyE, lyF]
    refine JW 8 (v := ?va9) rfl (by kernel_rfl) rfl ?ya9 xa ?ra9
    case ya9 => (intro w hw; (go_simp; with_reducible rfl))
    simp only [Act.put, lyA, lyB, lyC, lyD, lyE, lyF]
    refine JW 9 (v := ?va10) rfl (by kernel_rfl) rfl ?ya10 xa ?ra10
    case ya10 => (intro w hw; have hb := H6.out.bk.keep (hw.at H6.out.bk.lt (fun e => nbF.out (hob.out b e))); have a4 : w.cell? ⟨b, 4, none⟩ = some (.slice L.t.B rs.length L.t.d) := (by rw [← em.out]; exact hb.at rfl); obtain ⟨q0, q1⟩ := (k6.out.keep (hw.at k6.out.lt (fun e => hg.out (.inr (.inl (hob.out g e)))))).c2; (go_simp; with_reducible rfl))
    simp only [Act.put, lyA, lyB, lyC, lyD, lyE, lyF]
    refine J_one 10 rfl (by kernel_rfl) (fun K hK => ?_)
    go_simp
    refine (clone65 C fs.length cv (vs x.v) _ (Rd.ext hv6.out hxd.out) (vs_one x.v) (by omega)).mono ?_
    rintro e9 wa11 ⟨B, d, rfl, oV, hxa11⟩
    have hbase := hid hxd.out.size
    replace hO := hO.ext hxa11
    obtain ⟨hVd, hVb⟩ := OwV.mk (lo := lo) (x := x) oV rfl hr.1 (by have := hbase.out; have := H6.out.bk.lt; have := hlo.out; omega) hxl.out
    have hVb := hid (Nat.le_trans hbase.out hVb)
    clear oV
    refine hK _ _ ⟨fun _ => ((xa).ext hxa11), ?_⟩
    clear hK K
    try simp only [Act.put, lyA, lyB, lyC, lyD, lyE, lyF]
    have xa11 : (fun w' => Mv w6 w' (fun k => (Value.slice L.t.B rs.length L.t.d).ownBlock = some k)) wa11 := ((xa).ext hxa11)
    refine JW 11 (v := ?va12) rfl (by kernel_rfl) rfl ?ya12 xa11 ?ra12
    case ya12 => (intro w hw; (go_simp; with_reducible rfl))
    simp only [Act.put, lyA, lyB, lyC, lyD, lyE, lyF]
    refine J_one 12 rfl (by kernel_rfl) (fun K hK => ?_)
    go_simp
    have sa13 := one_rd wa11 (rcl ⟨x.gone, B, fs.length, d⟩) 69 2 rfl
    have hxa13 := Ext.new wa11 (.cells #[.bool x.gone, .slice B fs.length d] 69)
    change Rd (wa11.alloc (.cells #[.bool x.gone, .slice B fs.length d] 69)) _ _ _ _ _ at sa13
    generalize wa11.alloc (.cells #[.bool x.gone, .slice B fs.length d] 69) = wa13 at *
    generalize wa11.heap.size = ba13 at *
    replace hO := hO.ext hxa13
    replace hVd := hVd.keep (w' := wa13) (hxa13.block hVd.lt.2)
    refine hK _ _ ⟨fun _ => ((xa11).ext hxa13), ?_⟩
    clear hK K
    try simp only [Act.put, lyA, lyB, lyC, lyD, lyE, lyF]
    have xa13 : (fun w' => Mv w6 w' (fun k => (Value.slice L.t.B rs.length L.t.d).ownBlock = some k)) wa13 := ((xa11).ext hxa13)
    refine J_one 13 rfl (by kernel_rfl) (fun K hK => ?_)
    have hr0 := hO.2.1.1
    rw [hO.2.2.1, em.out] at hr0
    obtain ⟨Aa14, ca14, wa14, happa14, owna14, hga14, hgba14⟩ := app23 wa13 lo 23 (.slice L.t.B rs.length L.t.d) rs.length _ hr0 _ 1 1 _ sa13 (rcl_one _) (by have := (xa13).size; have := hlo.out; have := H6.out.bk.lt; omega) (by omega)
    have hyn : ¬ L.t.F (rb ⟨x.gone, B, fs.length, d⟩) := fun e => by have := (H6.out.ow.lt e).2; have := hVb.out; omega
    have hP := hid (OwTt.push (B' := Aa14) (d' := ca14) hO hVd hyn (by rw [em.out]; exact owna14) (by rw [em.out]; exact hga14) (by rw [em.out]; exact hgba14))
    have hPF := hid (fun k hk => OwTt.push_F (t := L.t) (y := ⟨x.gone, B, fs.length, d⟩) (B' := Aa14) (d' := ca14) (u := wa13) (k := k) (by rw [em.out]; exact hgba14) hk)
    have hws := hid ((xa13).size)
    replace happa14 := hid happa14
    clear hO hr0 owna14 sa13
    refine step_run rfl _ (ex_append _ _ _ _ rfl _ _ (by simp [Act.eval, Act.put]) (by simp [Act.eval, Act.put]) _ happa14.out) ?_
    refine hK _ _ ⟨fun _ => (xa13).grown hga14 (fun g hg => .inl hg), ?_⟩
    clear hK K
    try simp only [Act.put, lyA, lyB, lyC, lyD, lyE, lyF]
    have xa14 : (fun w' => Mv w6 w' (fun k => (Value.slice L.t.B rs.length L.t.d).ownBlock = some k)) wa14 := (xa13).grown hga14 (fun g hg => .inl hg)
    refine J_one 14 rfl (by kernel_rfl) (fun K hK => ?_)
    go_simp
    refine hK _ _ ⟨fun _ => xa14, ?_⟩
    clear hK K
    try simp only [Act.put, lyA, lyB, lyC, lyD, lyE, lyF]
    refine J_one 15 rfl (by kernel_rfl) (fun K hK => ?_)
    go_simp
    refine hK _ _ ⟨fun _ => xa14, ?_⟩
    clear hK K
    try simp only [Act.put, lyA, lyB, lyC, lyD, lyE, lyF]
    refine JW 16 (v := ?va17) rfl (by kernel_rfl) rfl ?ya17 xa14 ?ra17
    case ya17 => (intro w hw; (go_simp; with_reducible rfl))
    simp only [Act.put, lyA, lyB, lyC, lyD, lyE, lyF]
    refine J_one 17 rfl (by kernel_rfl) (fun K hK => ?_)
    have k7 := H6.out.bk.keep ((xa14).at H6.out.bk.lt (fun e => nbF.out (hob.out b e)))
    have z4 : wa14.cell? ⟨b, 4, none⟩ = some (.slice L.t.B L.t.m L.t.d) := k7.at rfl
    have fz := k7.free 4
    go_simp
    refine hK _ _ ⟨fun h => absurd rfl h, ?_⟩
    clear hK K
    try simp only [Act.put, lyA, lyB, lyC, lyD, lyE, lyF]
    have hPn : ∀ k, (⟨L.t.A, L.t.n, L.t.c, Aa14, L.t.m + 1, ca14, L.t.rr ++ [⟨x.gone, B, fs.length, d⟩]⟩ : Tt).F k → L.t.F k ∨ w6.heap.size ≤ k := fun k hk => by
      rcases hPF.out k hk with e | e | e
      · exact .inl e
      · exact .inr (by rw [← e]; exact hVb.out)
      · exact .inr (by have := hws.out; omega)
    have hPb : ¬ (⟨L.t.A, L.t.n, L.t.c, Aa14, L.t.m + 1, ca14, L.t.rr ++ [⟨x.gone, B, fs.length, d⟩]⟩ : Tt).F b := fun e => by
      rcases hPn b e with e | e
      · exact nbF.out e
      · have := H6.out.bk.lt; omega
    have hm7 := (Mv.mono (F' := fun k => k = b ∨ L.t.F k) (xa14) (fun k e => .inr (hob.out k e))).set (g := b) (.inl (.inl rfl)) 4 (.slice Aa14 (L.t.m + 1) ca14)
    have k8 := k7.set 4 (.slice Aa14 (L.t.m + 1) ca14)
    have h8 := hP.out.keep (w' := wa14.setCell ⟨b, 4, none⟩ (.slice Aa14 (L.t.m + 1) ca14)) (fun k hk => (setCell_at wa14 b 4 _).2 k (fun e => hPb (e ▸ hk)))
    have H8 := H6.out.now (s' := 1) (u := (⟨L.t.A, L.t.n, L.t.c, Aa14, L.t.m + 1, ca14, L.t.rr ++ [⟨x.gone, B, fs.length, d⟩]⟩ : Tt)) k8 h8 hPn hm7
    have m8 := hid (m6.out.trans hm7 (fun k e => e.elim (fun e => .inl (.inl e)) (fun e => .inl (.inr (.inl e)))))
    have hF8 := hid (fun k (hk : LogF b { L with t := (⟨L.t.A, L.t.n, L.t.c, Aa14, L.t.m + 1, ca14, L.t.rr ++ [⟨x.gone, B, fs.length, d⟩]⟩ : Tt) } k) => (show LogF b L k ∨ w.heap.size ≤ k from by
      rcases hk with e | e | e
      · exact .inl (.inl e)
      · exact (hPn k e).imp (fun e => .inr (.inl e)) (fun e => Nat.le_trans hws0.out e)
      · exact .inl (.inr (.inr e))))
    rw [em.out] at H8 m8 hF8
    have H8 := hid H8
    clear k7 z4 fz hPn hPb hm7 k8 h8 hP hPF hws H6 m6 k6 hv6 hVd
    generalize wa14.setCell ⟨b, 4, none⟩ (.slice Aa14 (rs.length + 1) ca14) = w9 at *
    have hcm := hid (commit_any w9 H8.out hE0.out hE2.out hl.out)
    refine J_done (by kernel_rfl) (OnlyOn.normal ?_)
    go_wp2_with fail
    refine hcm.out.mono ?_
    rintro e w12 ⟨rfl, hx12⟩
    have H12 := hid (H8.out.ext hx12)
    obtain ⟨-, -, -, y4, -, -, -, -, -, -⟩ := H12.out.c
    rw [List.length_append, List.length_singleton] at y4
    have hres : Hid (LogTo w w12 lo b 1 p fs r0 (rs ++ [x]) L) := hid ⟨_, H12.out, rfl, m8.out.ext hx12, hF8.out⟩
    have c0 := hid hres.out.c0.1
    have g0 := hid hres.out.c0.2
    replace hres := hid hres.out.unlock
    have i9 := IntWalk.i64_in ((rs.length : Int) + 1) (by omega)
    clear hcm hx12 H8 m8 H12
    go_wp2
    refine leaves_cons (f := 57) (args := #[.pointer (some ⟨b, 0, none⟩)]) (by simp) (by simp [go_sem]) ?_
    refine (unlock_deferred muLib ⟨b, 0, none⟩ .returning _ c0.out g0.out).mono ?_
    rintro e u' w'' ⟨rfl, rfl, rfl⟩
    exact ⟨.tuple #[.int .i64 ((rs.length : Int) + 1), .int .i64 0], (by simp [results, Tryz.results50, go_sem]), ⟨_, rfl⟩, hres.out⟩
  · obtain ⟨rfl, rfl, hlt⟩ := h3.out he
    have i1 : (300 : Int) ≤ (rs'.length : Int) := by omega
    have hres : Hid (LogTo w w2 lo b 1 p fs r0 rs' L) := hid (LogTo.of H3.out m3.out)
    have c0 := hid hres.out.c0.1
    have g0 := hid hres.out.c0.2
    replace hres := hid hres.out.unlock
    clear h0 h3 he H3 m3 k3 hv3
    go_wp2
    refine leaves_cons (f := 57) (args := #[.pointer (some ⟨b, 0, none⟩)]) (by simp) (by simp [go_sem]) ?_
    refine (unlock_deferred muLib ⟨b, 0, none⟩ .returning _ c0.out g0.out).mono ?_
    rintro e u' w'' ⟨rfl, rfl, rfl⟩
    exact ⟨.tuple #[.int .i64 0, .int .i64 3], (by simp [results, Tryz.results50, go_sem]), ⟨_, rfl⟩, hres.out⟩
theorem logged_any (m : Nat) (c : Cg) (x : Ac) (vals : List Vl) (w : World) (H : LogI w lo b 0 p fs r0 rs L) (hE0 : okT p fs r0) (hE : okT p fs rs) (hl : L.ln = 1) (hv : RdV w c.V c.vn c.vc vals) (hvl : ∀ k, atB c.V c.vn k → k < lo) (hf : RdF w c.A c.n c.c fs) (hm : m ≤ rs.length) (ho : ownB m x = true) :
    Calls Tryz.prog 14 #[.pointer (some ⟨b, 0, none⟩), .agg (cgC c).toArray, .agg (acC x).toArray] w fun e w' => e = .returned (.int .i64 (actE p fs vals rs x)) ∧ LogTo w w' lo b 0 p fs r0 (actR p fs vals rs x) L := by
  obtain ⟨w1, g1, e1, h1, s1, k1, x1⟩ := newB w (cgC c) 30
  obtain ⟨w2, g2, e2, h2, s2, k2, x2⟩ := newB w1 (acC x) 46
  have h2 := s1.out.symm.trans h2.out
  have hx := hid (x1.trans x2)
  have H2 := hid (H.ext hx.out)
  have hr := hE.len
  have hvf := hid (okT_iff.1 hE).2.1
  have hbl := hid (okT_blank hE)
  have hlo := hid (fun (k : Nat) (hk : LogF b L k) => H.lt hk)
  have hg := hid (show ¬ LogF b L g1 ∧ ¬ LogF b L g2 from ⟨fun e => by have := (H.lt e).2; have := h1.out; omega, fun e => by have := (H.lt e).2; have := h1.out; omega⟩)
  have hv2 := hid (hv.ext hx.out)
  have hf2 := hid (hf.ext hx.out)
  have hvl := hid hvl
  have k1 := hid (k1.ext x2)
  have k2 := hid k2
  have m2 := hid (Mv.of (F := LogF b L) hx.out)
  have ho := hid ho
  have hE := hid hE
  have hE0 := hid hE0
  have hl := hid hl
  have efl := hid hf.len
  clear H x1 x2 hv hf
  unfold cgC at e1 ⊢
  unfold acC at e2 ⊢
  go_enter Tryz.func14, Tryz.ntmps14
  go_upto_region 1 with fail
  simp only [e1.out, e2.out, h1.out, h2]
  clear e1 e2 h1 h2
  obtain ⟨a0, a1, a2, a3, a4, a5⟩ := k2.out.c6
  by_cases h2 : x.op = 2
  · obtain ⟨q1, q2⟩ := act_app (p := p) (fs := fs) (vals := vals) (x := x) h2 hr.2.2
    have hap := hid (fun (C : Option Addr) (cv : Nat) (w' : World) (Hw : LogI w' lo b 0 p fs r0 rs L) (hv' : RdV w' C fs.length cv (blank fs).v) (hb' : ¬ atB C fs.length b) => logAppend_any (actE p fs vals rs x) (actR p fs vals rs x) (blank fs) C cv w' Hw hE0.out hE.out hl.out hbl.out hv' hb' q1 q2)
    obtain ⟨b0, b1, b2, b3, b4, b5⟩ := k1.out.c6
    have hbk := hid (Blank_any c.A c.n c.c fs w2 hf2.out hvf.out)
    rw [← efl.out] at b1 hbk
    rw [h2] at a0
    have hA : Hid (actE p fs vals rs x = actE p fs vals rs x) := rfl
    have hB : Hid (actR p fs vals rs x = actR p fs vals rs x) := rfl
    revert hA hB hap
    generalize hA : actE p fs vals rs x = er
    generalize hB : actR p fs vals rs x = rs'
    intro hap _ _
    replace hA := hid hA
    replace hB := hid hB
    clear q1 q2 h2
    go_wp2_with fail
    refine hbk.out.mono ?_
    rintro e w3 ⟨B, d, rfl, oV, hx3⟩
    obtain ⟨w4, g3, e4, h4, s4, k3, x4⟩ := newB w3 [.bool false, .slice B fs.length d] 69
    have hx4 := hid (hx3.trans x4)
    have H4 := hid (H2.out.ext hx4.out)
    have m4 := hid (m2.out.ext hx4.out)
    have k3 := hid k3
    have hrv := hid (show RdV w4 B fs.length d (blank fs).v from Rd.ext (Rd.of_own oV) x4)
    have hnb := hid (show ¬ atB B fs.length b from fun e => by
      obtain ⟨ad, e5, _, e6⟩ := e
      obtain ⟨q, e7, e8, _⟩ := own_blk oV hr.1
      rw [e5] at e7
      injection e7 with e7
      rw [e7] at e6
      have := H2.out.bk.lt
      simp only at e6
      omega)
    clear hbk hx3 x4 s4 oV H2 m2 a0 a1 a2 a3 a4 a5 b0 b1 b2 b3 b4 b5
    go_upto_region 8 with fail
    simp only [e4.out, h4.out]
    clear e4 h4
    obtain ⟨q0, q1⟩ := k3.out.c2
    go_wp2_with fail
    refine (hap.out B d w4 H4.out hrv.out hnb.out).mono ?_
    rintro e w5 ⟨⟨z, rfl⟩, hW⟩
    have hres := hid (LogTo.trans m4.out hW)
    clear hap hW q0 q1 H4 m4
    go_wp2
    go_ret
    exact ⟨by rw [hA.out]; rfl, by rw [hB.out]; exact hres.out⟩
  · obtain ⟨i, hi, hin⟩ := own_at ho.out h2
    have hi := hid hi
    have hir : i < rs.length := by omega
    by_cases h0 : x.op = 0
    · obtain ⟨q1, q2⟩ := act_set (p := p) (fs := fs) (vals := vals) (rs := rs) (x := x) h0 hi.out
      have h0' := hid h0
      rw [h0] at a0
      replace q1 := hid q1
      replace q2 := hid q2
      clear h2 h0
      go_upto_region 3 with fail
      clear a0 a1 a2 a3 a4 a5
      have hxd := hid ((Ext.refl w2).drew_right)
      have xb : (fun w' => Mv w2 w' (LogF b L)) w2.drew := Mv.of (Ext.refl w2).drew_right
      refine region_J (fun w' => Mv w2 w' (LogF b L)) 11 (by kernel_rfl) ?_
      generalize w2.drew = db at * 
      refine JR 0 (v := ?vb1) rfl (by kernel_rfl) rfl ?yb1 xb ?rb1
      case yb1 => (intro w hw; (go_simp; with_reducible rfl))
      simp only [Act.put, lyA, lyB, lyC, lyD, lyE, lyF]
      refine JR 1 (v := ?vb2) rfl (by kernel_rfl) rfl ?yb2 xb ?rb2
      case yb2 => (intro w hw; (go_simp; with_reducible rfl))
      simp only [Act.put, lyA, lyB, lyC, lyD, lyE, lyF]
      refine JR 2 (v := ?vb3) rfl (by kernel_rfl) rfl ?yb3 xb ?rb3
      case yb3 => (intro w hw; obtain ⟨a0, a1, a2, a3, a4, a5⟩ := (k2.out.keep (hw.at k2.out.lt hg.out.2)).c6; rw [hi.out] at a1; obtain ⟨b0, b1, b2, b3, b4, b5⟩ := (k1.out.keep (hw.at k1.out.lt hg.out.1)).c6; (go_simp; with_reducible rfl))
      simp only [Act.put, lyA, lyB, lyC, lyD, lyE, lyF]
      refine JR 3 (v := ?vb4) rfl (by kernel_rfl) rfl ?yb4 xb ?rb4
      case yb4 => (intro w hw; (go_simp; with_reducible rfl))
      simp only [Act.put, lyA, lyB, lyC, lyD, lyE, lyF]
      refine JR 4 (v := ?vb5) rfl (by kernel_rfl) rfl ?yb5 xb ?rb5
      case yb5 => (intro w hw; obtain ⟨a0, a1, a2, a3, a4, a5⟩ := (k2.out.keep (hw.at k2.out.lt hg.out.2)).c6; rw [hi.out] at a1; obtain ⟨b0, b1, b2, b3, b4, b5⟩ := (k1.out.keep (hw.at k1.out.lt hg.out.1)).c6; (go_simp; with_reducible rfl))
      simp only [Act.put, lyA, lyB, lyC, lyD, lyE, lyF]
      refine JR 5 (v := ?vb6) rfl (by kernel_rfl) rfl ?yb6 xb ?rb6
      case yb6 => (intro w hw; obtain ⟨a0, a1, a2, a3, a4, a5⟩ := (k2.out.keep (hw.at k2.out.lt hg.out.2)).c6; rw [hi.out] at a1; obtain ⟨b0, b1, b2, b3, b4, b5⟩ := (k1.out.keep (hw.at k1.out.lt hg.out.1)).c6; (go_simp; with_reducible rfl))
      simp only [Act.put, lyA, lyB, lyC, lyD, lyE, lyF]
      refine JR 6 (v := ?vb7) rfl (by kernel_rfl) rfl ?yb7 xb ?rb7
      case yb7 => (intro w hw; (go_simp; with_reducible rfl))
      simp only [Act.put, lyA, lyB, lyC, lyD, lyE, lyF]
      refine JR 7 (v := ?vb8) rfl (by kernel_rfl) rfl ?yb8 xb ?rb8
      case yb8 => (intro w hw; obtain ⟨a0, a1, a2, a3, a4, a5⟩ := (k2.out.keep (hw.at k2.out.lt hg.out.2)).c6; rw [hi.out] at a1; obtain ⟨b0, b1, b2, b3, b4, b5⟩ := (k1.out.keep (hw.at k1.out.lt hg.out.1)).c6; (go_simp; with_reducible rfl))
      simp only [Act.put, lyA, lyB, lyC, lyD, lyE, lyF]
      refine J_one 8 rfl (by kernel_rfl) (fun K hK => ?_)
      go_simp
      refine (value_any c x.b vals _ (hv2.out.ext hxd.out)).mono ?_
      rintro e wb9 ⟨rfl, hxb9⟩
      have hxv := hid (hxd.out.trans hxb9)
      unfold vl
      refine hK _ _ ⟨fun _ => ((xb).ext hxb9), ?_⟩
      clear hK K
      try simp only [Act.put, lyA, lyB, lyC, lyD, lyE, lyF]
      have xb9 : (fun w' => Mv w2 w' (LogF b L)) wb9 := ((xb).ext hxb9)
      refine J_one 9 rfl (by kernel_rfl) (fun K hK => ?_)
      go_simp
      refine (logSet_any i x.s (valOf vals x.b) _ (H2.out.ext hxv.out) hE0.out hE.out hl.out hir).mono ?_
      rintro e w9 ⟨rfl, L9, H9, l9, m9, f9⟩
      refine hK _ _ ⟨fun _ => ((Mv.of hxv.out).trans m9 (fun k hk => .inl hk)), ?_⟩
      clear hK K
      try simp only [Act.put, lyA, lyB, lyC, lyD, lyE, lyF]
      have xb10 : (fun w' => Mv w2 w' (LogF b L)) w9 := ((Mv.of hxv.out).trans m9 (fun k hk => .inl hk))
      refine JR 10 (v := ?vb11) rfl (by kernel_rfl) rfl ?yb11 xb10 ?rb11
      case yb11 => (intro w hw; (go_simp; with_reducible rfl))
      simp only [Act.put, lyA, lyB, lyC, lyD, lyE, lyF]
      refine J_done (by kernel_rfl) (OnlyOn.normal ?_)
      have hres : Hid (LogTo w w9 lo b 0 p fs r0 (setR p fs rs i x.s (valOf vals x.b)) L) := hid ⟨L9, H9, l9, m2.out.trans ((Mv.of hxv.out).trans m9 (fun k hk => .inl hk)) (fun k hk => .inl hk), fun k hk => (f9 k hk).imp id (fun h => Nat.le_trans (Nat.le_trans m2.out.size hxv.out.size) h)⟩
      clear H9 m9 f9 l9 H2 m2 k1 k2 hv2
      go_wp2
      go_ret
      exact ⟨by rw [q1.out]; rfl, by rw [q2.out]; exact hres.out⟩
    · by_cases h1 : x.op = 1
      · obtain ⟨q1, q2⟩ := act_mark (p := p) (fs := fs) (vals := vals) (rs := rs) (x := x) h1 hi.out
        have hcc := hid (show (x.c != 0) = !decide (x.c = 0) from by by_cases h : x.c = 0 <;> simp [h])
        have hmk := hid (logMark_any i (!decide (x.c = 0)) w2 H2.out hE0.out hE.out hl.out hir)
        rw [← hcc.out] at hmk
        rw [h1] at a0
        rw [hi.out] at a1
        replace q1 := hid q1
        replace q2 := hid q2
        clear h2 h0 h1 H2
        go_wp2_with fail
        refine hmk.out.mono ?_
        rintro e w9 ⟨rfl, hW⟩
        have hres := hid (LogTo.trans m2.out hW)
        clear hW hmk a0 a1 a2 a3 a4 a5
        go_wp2
        go_ret
        exact ⟨by rw [q1.out]; rfl, by rw [q2.out, ← hcc.out]; exact hres.out⟩
      · obtain ⟨q1, q2⟩ := act_else (p := p) (fs := fs) (vals := vals) (rs := rs) (x := x) h0 h1 h2
        have n0' : (x.op == 0) = false := by simpa using h0
        have n1' : (x.op == 1) = false := by simpa using h1
        have n2' : (x.op == 2) = false := by simpa using h2
        have hres : Hid (LogTo w w2 lo b 0 p fs r0 rs L) := hid (LogTo.of H2.out m2.out)
        replace q1 := hid q1
        replace q2 := hid q2
        clear h0 h1 h2 H2
        go_wp2
        go_ret
        exact ⟨by rw [q1.out]; rfl, by rw [q2.out]; exact hres.out⟩
end
end Go.Proofs.YtngoebbmgpdeiaaGreatDoor
