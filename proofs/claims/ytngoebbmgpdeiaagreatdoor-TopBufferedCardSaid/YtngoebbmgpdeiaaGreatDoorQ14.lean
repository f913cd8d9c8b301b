/-
  A desk: a record is altered.
-/
import Derived.Test.YtngoebbmgpdeiaaGreatDoorQ13
set_option maxRecDepth 100000
set_option maxHeartbeats 40000000
set_option linter.unusedVariables false
set_option linter.unusedSimpArgs false
namespace Go.Proofs.YtngoebbmgpdeiaaGreatDoor
open Go.RowKit Go.Shelf Go.MuLone
def AltTo (w w' : World) (lo b : Nat) (s p : Int) (fs : List Fd) (rs vb ra : List Rc) (mode at_ : Int) (x : Rc) (i : Nat) (M : Dm) : Prop :=
  ∃ rs' M', DeskI w' lo b s p fs rs' (vb.set i x) ra mode at_ M' ∧ rs'.length = rs.length ∧ (mode = 0 → M'.ch = []) ∧ Mv w w' (DeskF M) ∧ ∀ k, DeskF M' k → DeskF M k ∨ w.heap.size ≤ k
theorem look88_no {w : World} {bm : Nat} {l : List (Int × Rr × Rr)} {k : Int} (h : IsMap keyI w bm (chK l)) (hn : ∀ e ∈ l, e.1 ≠ k) (ok : Bool) : (Instr.lookup 88 (.map (some bm)) (.int .i64 k) ok).run Tryz.prog w = .ok (if ok then .tuple #[chZ, .bool false] else chZ) w := by
  rcases look88 h k with ⟨e, he, e1, _⟩ | ⟨_, e2⟩
  · exact absurd e1 (hn e he)
  · exact e2 ok
theorem OwV.turn {w : World} {lo m k : Nat} {r : Rr} {x : Rc} (h : OwV w lo m r x) (hk : k < m) (y : Vl) : OwV (w.setCells (rb r) (k * 3) (vcl y)) lo m r ⟨x.gone, x.v.set k y⟩ := by
  obtain ⟨e1, e2, e3, b, e4, e5⟩ := h
  have hb : rb r = b := by unfold rb; rw [e4]; rfl
  rw [hb]
  refine ⟨e1, e2, by simpa using e3, b, e4, ?_⟩
  show World.ownsRow _ lo 66 3 _ m (vs (x.v.set k y))
  rw [← vs_set y _ k (by omega)]
  exact own_setK (o := k * 3 + 2) (own_setK (o := k * 3 + 1) (own_setK (o := k * 3) e5))
theorem OwV.ext {w w' : World} {lo m : Nat} {r : Rr} {x : Rc} (h : OwV w lo m r x) (hx : Ext w w') : OwV w' lo m r x := h.keep (hx.block h.lt.2)
theorem HB.bk {w : World} {b : Nat} {t : TypeId} {xs : List Value} (h : HB w b xs.length t) (hc : ∀ i v, xs[i]? = some v → w.cell? ⟨b, i, none⟩ = some v) : Bk w b xs t := by
  obtain ⟨cur, h1, h2⟩ := h
  have e : cur = xs.toArray := by
    apply Array.ext
    · simpa using h2
    · intro i h3 h4
      have h5 : i < xs.length := by omega
      have := hc i xs[i] (List.getElem?_eq_getElem h5)
      rw [cell_of_row w b i cur t (0, 0) h1, Array.getElem?_eq_getElem h3] at this
      injection this with this
  unfold Bk
  rw [h1, e]
section
variable {w w1 w' : World} {lo b n0 i : Nat} {s s' p : Int} {fs : List Fd} {rs vb ra : List Rc} {mode at_ at' : Int} {M M1 : Dm}
theorem alt_ok {o n : Rr} {x : Rc} {τ' : Nat → Tg} {w5 : World} (H : DeskI w1 lo b s p fs rs vb ra mode ((i : Int) + 1) M1) (hi : i < rs.length) (hmap : IsMap keyI w5 M1.bm (up (chK M1.ch) ((i : Int) + 1) (chV o n))) (ho : OwV w5 lo fs.length o (rth rs i)) (hn : OwV w5 lo fs.length n x)
    (hτ : ∀ q, M1.τ q ≠ .no → τ' q = M1.τ q) (hτo : τ' (rb o) = .old ((i : Int) + 1)) (hτn : τ' (rb n) = .now ((i : Int) + 1)) (hbd : ∀ q, τ' q ≠ .no → lo ≤ q ∧ q < w5.heap.size) (hm5 : Mv w1 w5 (fun q => M1.τ q = .chm ∨ M1.τ q = .now ((i : Int) + 1)))
    (hm1 : Mv w w1 (DeskF M)) (hfM : ∀ k, DeskF M1 k ↔ DeskF M k) (hF : ∀ q, τ' q ≠ .no → M1.τ q ≠ .no ∨ w.heap.size ≤ q) (hmd : mode ≠ 0) : AltTo w w5 lo b s p fs rs vb ra mode ((i : Int) + 1) x i M := by
  obtain ⟨ch', h⟩ := H.change hi hmap ho hn hτ hτo hτn hbd (fun q a b c d => hm5.at (H.bd q a).2 (fun e => e.elim b d))
  refine ⟨rs, _, h, rfl, fun e => absurd e hmd, hm1.trans hm5 (fun k hk => .inl ((hfM k).1 ?_)), fun k hk => (hF k hk).imp (fun e => (hfM k).1 e) id⟩
  unfold DeskF
  rcases hk with e | e <;> rw [e] <;> simp
theorem alterV_any (i k g7 g12 : Nat) (y : Vl) (w : World) (H : DeskI w lo b s p fs rs vb ra mode ((i : Int) + 1) M) (hi : i < rs.length) (hc : mode = 0 → M.ch = []) (hl : rs.length ≤ 300) (hf : 0 < fs.length ∧ fs.length ≤ 16) (hk : k < fs.length) (k7 : Bk w g7 [.int .i64 y.k, .int .i64 y.n, .string y.s] 66) (k12 : Bk w g12 [.int .i64 (k : Int)] 3) (n7 : ¬ DeskF M g7) (n12 : ¬ DeskF M g12) :
    Calls Tryz.prog 60 #[.pointer (some ⟨b, 0, none⟩), .int .i64 0, .pointer (some ⟨b, 5, none⟩), .func (.func 61) #[] #[.pointer (some ⟨g7, 0, none⟩), .pointer (some ⟨g12, 0, none⟩)]] w fun e w' => e = .returned (.int .i64 0) ∧ AltTo w w' lo b s p fs rs vb ra mode ((i : Int) + 1) ⟨(rth vb i).gone, (rth vb i).v.set k y⟩ i M := by
  have hlk := hid (lock_any ((i : Int) + 1) w H (by omega))
  obtain ⟨a0, a2, a3, a4, a5, a6, a7, a8, a21⟩ := H.c
  have hfl := hid (show DeskF M M.bl from by unfold DeskF; rw [H.tl]; simp)
  have k7 := hid k7
  have k12 := hid k12
  clear H
  go_enter Tryz.func60, Tryz.ntmps60
  go_wp2_with fail
  refine hlk.out.mono ?_
  rintro e w1 ⟨rfl, l', H1, m1⟩
  have k7 := hid (k7.out.keep (m1.at k7.out.lt (fun e => n7 (e ▸ hfl.out))))
  have k12 := hid (k12.out.keep (m1.at k12.out.lt (fun e => n12 (e ▸ hfl.out))))
  replace m1 := hid (m1.mono (fun k (e : k = M.bl) => (show DeskF M k from e ▸ hfl.out)))
  clear hlk a0 a2 a3 a4 a5 a6 a7 a8 a21
  obtain ⟨M1, hM1, hfM⟩ : ∃ M1 : Dm, M1 = { M with lk := l' } ∧ ∀ k, DeskF M1 k ↔ DeskF M k := ⟨_, rfl, fun k => Iff.rfl⟩
  have hc1 : mode = 0 → M1.ch = [] := by rw [hM1]; exact hc
  rw [← hM1] at H1
  have H1 := hid H1
  have hfM := hid hfM
  have hc1 := hid hc1
  clear hM1 hc
  have hws := hid m1.out.size
  obtain ⟨a0, a2, a3, a4, a5, a6, a7, a8, a21⟩ := H1.out.c
  obtain ⟨gB, eB, hg1, hg2, r0, r1, hv⟩ := H1.out.ow.at_ hi
  have hv := hid hv
  clear r0 r1
  have i0 : ¬ ((i : Int) + 1 < 0) := by omega
  have i3 := IntWalk.i64_in ((i : Int) + 1 - 1) (by omega)
  have i4 := IntWalk.i64_in (i : Int) (by omega)
  have i5 : 0 ≤ (i : Int) ∧ (i : Int) < rs.length := by omega
  by_cases hm : mode = 0
  · have hch := hid (hc1.out hm)
    have hvb := hid (H1.out.vbrs hch.out)
    have hm0 : (mode == 0) = true := by simp [hm]
    replace hm := hid hm
    go_upto_region 12 with fail
    clear a0 a2 a3 a4 a5 a6 a7 a8 a21
    have nbF := hid (show ¬ M1.t.F b from fun hF => by have := H1.out.tt b hF; rw [H1.out.td] at this; cases this)
    have hxd := hid ((Ext.refl w1).drew_right)
    obtain ⟨e1, e2, e3, gV, eA, hrow⟩ := hv.out
    have hrb : rb (rrth M1.t.rr i) = gV := by unfold rb; rw [eA]; rfl
    have hcl := hid (fun w' (hx : Ext w1 w') => cl61_any gB (i * 2) gV k (rrth M1.t.rr i).c g7 g12 fs.length lo y (rth rs i).v w' (by
      obtain ⟨g', e', -, -, -, r1, -⟩ := (H1.out.ext hx).ow.at_ hi
      rw [eB] at e'; injection e' with e'; injection e' with e'; subst e'
      rw [eA] at r1; exact r1) (k7.out.ext hx) (k12.out.ext hx) (hx.own hrow) hk (by omega))
    have hrb := hid hrb
    have hgF := hid (show M1.t.F gV from .inr (.inr ⟨i, by have := H1.out.ow.2.2.1; omega, hrb.out⟩))
    clear e1 e2 e3 eA hrow
    have xa : (fun w' => Mv w1 w' M1.t.F) w1.drew := Mv.of (Ext.refl w1).drew_right
    refine region_J (fun w' => Mv w1 w' M1.t.F) 13 (by kernel_rfl) ?_
    generalize w1.drew = da at * 
    refine JR 0 (v := ?va1) rfl (by kernel_rfl) rfl ?ya1 xa ?ra1
    case ya1 => (intro w hw; (go_simp; with_reducible rfl))
    simp only [Act.put, lyA, lyB, lyC, lyD, lyE, lyF]
    refine JR 1 (v := ?va2) rfl (by kernel_rfl) rfl ?ya2 xa ?ra2
    case ya2 => (intro w hw; (go_simp; with_reducible rfl))
    simp only [Act.put, lyA, lyB, lyC, lyD, lyE, lyF]
    refine JR 2 (v := ?va3) rfl (by kernel_rfl) rfl ?ya3 xa ?ra3
    case ya3 => (intro w hw; (go_simp; with_reducible rfl))
    simp only [Act.put, lyA, lyB, lyC, lyD, lyE, lyF]
    refine JR 3 (v := ?va4) rfl (by kernel_rfl) rfl ?ya4 xa ?ra4
    case ya4 => (intro w hw; (go_simp; with_reducible rfl))
    simp only [Act.put, lyA, lyB, lyC, lyD, lyE, lyF]
    refine JR 4 (v := ?va5) rfl (by kernel_rfl) rfl ?ya5 xa ?ra5
    case ya5 => (intro w hw; (go_simp; with_reducible rfl))
    simp only [Act.put, lyA, lyB, lyC, lyD, lyE, lyF]
    refine JR 5 (v := ?va6) rfl (by kernel_rfl) rfl ?ya6 xa ?ra6
    case ya6 => (intro w hw; have hb := H1.out.bk.keep (hw.at H1.out.bk.lt nbF.out); have a4 : w.cell? ⟨b, 4, none⟩ = some (.slice M1.t.B rs.length M1.t.d) := (by rw [← H1.out.ow.2.2.2.1]; exact hb.at rfl); rw [eB] at a4; have a6 : w.cell? ⟨b, 6, none⟩ = some (.int .i64 ((i : Int) + 1)) := hb.at rfl; (go_simp; with_reducible rfl))
    simp only [Act.put, lyA, lyB, lyC, lyD, lyE, lyF]
    refine JR 6 (v := ?va7) rfl (by kernel_rfl) rfl ?ya7 xa ?ra7
    case ya7 => (intro w hw; (go_simp; with_reducible rfl))
    simp only [Act.put, lyA, lyB, lyC, lyD, lyE, lyF]
    refine JR 7 (v := ?va8) rfl (by kernel_rfl) rfl ?ya8 xa ?ra8
    case ya8 => (intro w hw; (go_simp; with_reducible rfl))
    simp only [Act.put, lyA, lyB, lyC, lyD, lyE, lyF]
    refine JR 8 (v := ?va9) rfl (by kernel_rfl) rfl ?ya9 xa ?ra9
    case ya9 => (intro w hw; (go_simp; with_reducible rfl))
    simp only [Act.put, lyA, lyB, lyC, lyD, lyE, lyF]
    refine JR 9 (v := ?va10) rfl (by kernel_rfl) rfl ?ya10 xa ?ra10
    case ya10 => (intro w hw; have hb := H1.out.bk.keep (hw.at H1.out.bk.lt nbF.out); have a4 : w.cell? ⟨b, 4, none⟩ = some (.slice M1.t.B rs.length M1.t.d) := (by rw [← H1.out.ow.2.2.2.1]; exact hb.at rfl); rw [eB] at a4; have a6 : w.cell? ⟨b, 6, none⟩ = some (.int .i64 ((i : Int) + 1)) := hb.at rfl; (go_simp; with_reducible rfl))
    simp only [Act.put, lyA, lyB, lyC, lyD, lyE, lyF]
    refine JR 10 (v := ?va11) rfl (by kernel_rfl) rfl ?ya11 xa ?ra11
    case ya11 => (intro w hw; (go_simp; with_reducible rfl))
    simp only [Act.put, lyA, lyB, lyC, lyD, lyE, lyF]
    refine JR 11 (v := ?va12) rfl (by kernel_rfl) rfl ?ya12 xa ?ra12
    case ya12 => (intro w hw; (go_simp; with_reducible rfl))
    simp only [Act.put, lyA, lyB, lyC, lyD, lyE, lyF]
    refine J_one 12 rfl (by kernel_rfl) (fun K hK => ?_)
    go_simp
    refine (hcl.out _ hxd.out).mono ?_
    rintro e9 w2 ⟨rfl, W, hW, hw2⟩
    refine hK _ _ ⟨fun _ => (by rw [hw2]; exact (Mv.of (hxd.out.trans hW)).setC (.inl hgF.out) _ _), ?_⟩
    clear hK K
    try simp only [Act.put, lyA, lyB, lyC, lyD, lyE, lyF]
    have xa13 : (fun w' => Mv w1 w' M1.t.F) w2 := (by rw [hw2]; exact (Mv.of (hxd.out.trans hW)).setC (.inl hgF.out) _ _)
    refine J_done (by kernel_rfl) (OnlyOn.normal ?_)
    have hW := hid (hxd.out.trans hW)
    have hm2 := hid xa13
    have hres : Hid (AltTo w w2 lo b s p fs rs vb ra mode ((i : Int) + 1) ⟨(rth vb i).gone, (rth vb i).v.set k y⟩ i M) := by
      have hU := (H1.out.ow.ext hW.out).turnV hi hk y
      rw [hrb.out, ← hw2] at hU
      have h := H1.out.direct hch.out hU (LkT.refl _) hm2.out (by rw [List.length_set])
      rw [← hvb.out] at h
      exact hid ⟨_, _, h, by rw [List.length_set, hvb.out], fun _ => hch.out, m1.out.trans hm2.out (fun k hk => .inl ((hfM.out k).1 (by unfold DeskF; rw [H1.out.tt k hk]; simp))), fun k hk => .inl ((hfM.out k).1 hk)⟩
    clear H1 hcl hW hw2 hm2 hxd
    go_wp2
    go_ret
    exact ⟨rfl, hres.out⟩
  · have hm0 : (mode == 0) = false := by simp [hm]
    replace hm := hid hm
    go_upto_region 4 with fail
    clear a0 a2 a3 a4 a5 a6 a7 a8 a21
    by_cases hek : ∃ e ∈ M1.ch, e.1 = (i : Int) + 1
    · obtain ⟨e, he, hek⟩ := hek
      obtain ⟨j, hj, hej, hvo, hvn⟩ := H1.out.cv e he
      obtain rfl : i = j := by omega
      have htv := hid (H1.out.tv e he)
      have he := hid he
      have hek := hid hek
      have hvo := hid hvo
      have hvn := hid hvn
      clear hej hj
      have xb := (Ext.refl w1).drew_right
      refine region_J (fun w' => Ext w1 w') 15 (by kernel_rfl) ?_
      generalize w1.drew = db at xb ⊢
      refine JR 0 (v := ?vb1) rfl (by kernel_rfl) rfl ?yb1 xb ?rb1
      case yb1 => (intro w hw; (go_simp; with_reducible rfl))
      simp only [Act.put, lyA, lyB, lyC, lyD, lyE, lyF]
      refine JR 1 (v := ?vb2) rfl (by kernel_rfl) rfl ?yb2 xb ?rb2
      case yb2 => (intro w hw; (go_simp; with_reducible rfl))
      simp only [Act.put, lyA, lyB, lyC, lyD, lyE, lyF]
      refine JR 2 (v := ?vb3) rfl (by kernel_rfl) rfl ?yb3 xb ?rb3
      case yb3 => (intro w hw; (go_simp; with_reducible rfl))
      simp only [Act.put, lyA, lyB, lyC, lyD, lyE, lyF]
      refine JR 3 (v := ?vb4) rfl (by kernel_rfl) rfl ?yb4 xb ?rb4
      case yb4 => (intro w hw; obtain ⟨a0, a2, a3, a4, a5, a6, a7, a8, a21⟩ := (H1.out.ext hw).c; (go_simp; with_reducible rfl))
      simp only [Act.put, lyA, lyB, lyC, lyD, lyE, lyF]
      refine JR 4 (v := ?vb5) rfl (by kernel_rfl) rfl ?yb5 xb ?rb5
      case yb5 => (intro w hw; (go_simp; with_reducible rfl))
      simp only [Act.put, lyA, lyB, lyC, lyD, lyE, lyF]
      refine JR 5 (v := ?vb6) rfl (by kernel_rfl) rfl ?yb6 xb ?rb6
      case yb6 => (intro w hw; (go_simp; with_reducible rfl))
      simp only [Act.put, lyA, lyB, lyC, lyD, lyE, lyF]
      refine JR 6 (v := ?vb7) rfl (by kernel_rfl) rfl ?yb7 xb ?rb7
      case yb7 => (intro w hw; (go_simp; with_reducible rfl))
      simp only [Act.put, lyA, lyB, lyC, lyD, lyE, lyF]
      refine JR 7 (v := ?vb8) rfl (by kernel_rfl) rfl ?yb8 xb ?rb8
      case yb8 => (intro w hw; obtain ⟨a0, a2, a3, a4, a5, a6, a7, a8, a21⟩ := (H1.out.ext hw).c; (go_simp; with_reducible rfl))
      simp only [Act.put, lyA, lyB, lyC, lyD, lyE, lyF]
      refine JR 8 (v := ?vb9) rfl (by kernel_rfl) rfl ?yb9 xb ?rb9
      case yb9 => (intro w hw; obtain ⟨a0, a2, a3, a4, a5, a6, a7, a8, a21⟩ := (H1.out.ext hw).c; have hlk := look88_mem (H1.out.ext hw).cm he.out true; rw [hek.out, if_pos rfl] at hlk; unfold chV at hlk; (go_simp; with_reducible rfl))
      simp only [Act.put, lyA, lyB, lyC, lyD, lyE, lyF]
      refine JR 9 (v := ?vb10) rfl (by kernel_rfl) rfl ?yb10 xb ?rb10
      case yb10 => (intro w hw; (go_simp; with_reducible rfl))
      simp only [Act.put, lyA, lyB, lyC, lyD, lyE, lyF]
      refine JR 10 (v := ?vb11) rfl (by kernel_rfl) rfl ?yb11 xb ?rb11
      case yb11 => (intro w hw; (go_simp; with_reducible rfl))
      simp only [Act.put, lyA, lyB, lyC, lyD, lyE, lyF]
      refine JR 11 (v := ?vb12) rfl (by kernel_rfl) rfl ?yb12 xb ?rb12
      case yb12 => (intro w hw; (go_simp; with_reducible rfl))
      simp only [Act.put, lyA, lyB, lyC, lyD, lyE, lyF]
      refine J_one 12 rfl (by kernel_rfl) (fun K hK => ?_)
      go_simp
      obtain ⟨wb13, bb13, eb13, gb13, hb13, cb13, hxb13, lb13⟩ := alloc_at db [.bool false, .slice none 0 0, .bool false, .slice none 0 0] 156
      simp only [eb13, gb13]
      have zb13 : w1.heap.size ≤ bb13 := by rw [← gb13]; exact (xb).size
      have yb13 : db.heap.size ≤ bb13 := by rw [← gb13]; exact Nat.le_refl _
      clear eb13 gb13 cb13
      refine hK _ _ ⟨fun _ => ((xb).trans hxb13), ?_⟩
      clear hK K
      try simp only [Act.put, lyA, lyB, lyC, lyD, lyE, lyF]
      have xb13 := ((xb).trans hxb13)
      refine J_one 13 rfl (by kernel_rfl) (fun K hK => ?_)
      refine step_store0 rfl 156 _ _ rfl bb13 [.bool e.2.1.g, .slice e.2.1.A e.2.1.n e.2.1.c, .bool e.2.2.g, .slice e.2.2.A e.2.2.n e.2.2.c] rfl rfl hb13 (by kernel_rfl) (by first | rfl | simp [Value.oneCell']) ?_
      obtain ⟨wb14, eb14, hb14, cb14, hxb14, -, hkb14⟩ := store_at (u := w1) [.bool e.2.1.g, .slice e.2.1.A e.2.1.n e.2.1.c, .bool e.2.2.g, .slice e.2.2.A e.2.2.n e.2.2.c] hb13 (xb13) zb13
      rw [eb14]
      clear eb14
      refine hK _ _ ⟨fun _ => hxb14, ?_⟩
      clear hK K
      try simp only [Act.put, lyA, lyB, lyC, lyD, lyE, lyF]
      refine JR 14 (v := ?vb15) rfl (by kernel_rfl) rfl ?yb15 hxb14 ?rb15
      case yb15 => (intro w hw; (go_simp; with_reducible rfl))
      simp only [Act.put, lyA, lyB, lyC, lyD, lyE, lyF]
      refine J_done (by kernel_rfl) (OnlyOn.normal ?_)
      have x4 := hid (hxb14)
      have kc := hid (HB.bk (xs := [.bool e.2.1.g, .slice e.2.1.A e.2.1.n e.2.1.c, .bool e.2.2.g, .slice e.2.2.A e.2.2.n e.2.2.c]) hb14 cb14)
      have kz := hid zb13
      generalize wb14 = w4 at *
      generalize bb13 = gc at *
      have hto := htv.out.1
      have htn := htv.out.2
      rw [hek.out] at hto htn
      have hlo := hvo.out.lt
      have hln := hvn.out.lt
      replace hvo := hid (hvo.out.ext x4.out)
      replace hvn := hid (hvn.out.ext x4.out)
      generalize e.2.1 = o at *
      generalize e.2.2 = n at *
      have hne := hid (show gc ≠ rb o ∧ gc ≠ rb n ∧ rb o ≠ rb n ∧ rb o ≠ M1.bm ∧ rb n ≠ M1.bm from ⟨by have := kz.out; omega, by have := kz.out; omega, fun e => (by rw [e, htn] at hto; cases hto), fun e => (by rw [e, H1.out.tc] at hto; cases hto), fun e => (by rw [e, H1.out.tc] at htn; cases htn)⟩)
      have hgN := hid (show M1.τ (rb n) = .now ((i : Int) + 1) ∨ w1.heap.size ≤ rb n from .inl htn)
      obtain ⟨τ', hτ, hτo, hτn, hbd, hτF⟩ : ∃ τ' : Nat → Tg, Hid (∀ q, M1.τ q ≠ .no → τ' q = M1.τ q) ∧ Hid (τ' (rb o) = .old ((i : Int) + 1)) ∧ Hid (τ' (rb n) = .now ((i : Int) + 1)) ∧ Hid (∀ q, τ' q ≠ .no → lo ≤ q ∧ q < w4.heap.size) ∧ Hid (∀ q, τ' q ≠ .no → M1.τ q ≠ .no ∨ w.heap.size ≤ q) :=
        ⟨M1.τ, fun _ _ => rfl, hto, htn, fun q hq => ⟨(H1.out.bd q hq).1, Nat.lt_of_lt_of_le (H1.out.bd q hq).2 x4.out.size⟩, fun q hq => .inl hq⟩
      clear hto htn hlo hln htv he hek
      obtain ⟨n1, n2, n3, gN, nA, nrow⟩ := hvn.out
      have hrb := hid (show rb n = gN from by unfold rb; rw [nA]; rfl)
      have hcl := hid (cl61_any gc 2 gN k n.c g7 g12 fs.length lo y (rth vb i).v w4 (by have := kc.out.at (i := 3) rfl; rw [nA, n2] at this; exact this) (k7.out.ext x4.out) (k12.out.ext x4.out) nrow hk (by omega))
      clear n1 n2 n3 nA nrow
      go_wp2_with fail
      refine hcl.out.mono ?_
      rintro e9 w6 ⟨rfl, W, hW, hw6⟩
      have ho6 := hid (show OwV w6 lo fs.length o (rth rs i) from by rw [hw6]; exact (hvo.out.ext hW).keep ((setCells_at _ W gN _).2.2.2.2 _ (by rw [← hrb.out]; exact hne.out.2.2.1)))
      have hn6 := hid (show OwV w6 lo fs.length n ⟨(rth vb i).gone, (rth vb i).v.set k y⟩ from by rw [hw6, ← hrb.out]; exact (hvn.out.ext hW).turn hk y)
      have kc6 := hid (show Bk w6 gc [.bool o.g, .slice o.A o.n o.c, .bool n.g, .slice n.A n.n n.c] 156 from by rw [hw6]; exact (kc.out.ext hW).keep ((setCells_at _ W gN _).2.2.2.2 _ (by rw [← hrb.out]; exact hne.out.2.1)))
      have hm6 := hid (show Mv w1 w6 (fun q => M1.τ q = .now ((i : Int) + 1)) from by rw [hw6]; exact (Mv.of (x4.out.trans hW)).setC (by rw [← hrb.out]; exact hgN.out) _ _)
      have hs6 := hid (show w4.heap.size ≤ w6.heap.size from by rw [hw6, (setCells_at _ W gN _).1]; exact hW.size)
      clear hW hw6
      have hb6 := hid (H1.out.bk.keep (hm6.out.at H1.out.bk.lt (fun e => by rw [H1.out.td] at e; cases e)))
      have hcm6 := hid (H1.out.cm.keep (hm6.out.at H1.out.cm.lt (fun e => by rw [H1.out.tc] at e; cases e)))
      clear hcl kc hvo hvn
      go_upto_region 8 with fail
      have xh := (Ext.refl w6).drew_right
      refine region_J (fun w' => Ext w6 w') 9 (by kernel_rfl) ?_
      generalize w6.drew = dh at xh ⊢
      refine JW 0 (v := ?vh1) rfl (by kernel_rfl) rfl ?yh1 xh ?rh1
      case yh1 => (intro w hw; (go_simp; with_reducible rfl))
      simp only [Act.put, lyA, lyB, lyC, lyD, lyE, lyF]
      refine JW 1 (v := ?vh2) rfl (by kernel_rfl) rfl ?yh2 xh ?rh2
      case yh2 => (intro w hw; (go_simp; with_reducible rfl))
      simp only [Act.put, lyA, lyB, lyC, lyD, lyE, lyF]
      refine JW 2 (v := ?vh3) rfl (by kernel_rfl) rfl ?yh3 xh ?rh3
      case yh3 => (intro w hw; (go_simp; with_reducible rfl))
      simp only [Act.put, lyA, lyB, lyC, lyD, lyE, lyF]
      refine JW 3 (v := ?vh4) rfl (by kernel_rfl) rfl ?yh4 xh ?rh4
      case yh4 => (intro w hw; obtain ⟨q0, q1, q2, q3⟩ := (kc6.out.ext hw).c4; have hb := hb6.out.ext hw; have a7 : w.cell? ⟨b, 7, none⟩ = some (.map (some M1.bm)) := hb.at rfl; have a6 : w.cell? ⟨b, 6, none⟩ = some (.int .i64 ((i : Int) + 1)) := hb.at rfl; (go_simp; with_reducible rfl))
      simp only [Act.put, lyA, lyB, lyC, lyD, lyE, lyF]
      refine JW 4 (v := ?vh5) rfl (by kernel_rfl) rfl ?yh5 xh ?rh5
      case yh5 => (intro w hw; (go_simp; with_reducible rfl))
      simp only [Act.put, lyA, lyB, lyC, lyD, lyE, lyF]
      refine JW 5 (v := ?vh6) rfl (by kernel_rfl) rfl ?yh6 xh ?rh6
      case yh6 => (intro w hw; (go_simp; with_reducible rfl))
      simp only [Act.put, lyA, lyB, lyC, lyD, lyE, lyF]
      refine JW 6 (v := ?vh7) rfl (by kernel_rfl) rfl ?yh7 xh ?rh7
      case yh7 => (intro w hw; (go_simp; with_reducible rfl))
      simp only [Act.put, lyA, lyB, lyC, lyD, lyE, lyF]
      refine JW 7 (v := ?vh8) rfl (by kernel_rfl) rfl ?yh8 xh ?rh8
      case yh8 => (intro w hw; obtain ⟨q0, q1, q2, q3⟩ := (kc6.out.ext hw).c4; have hb := hb6.out.ext hw; have a7 : w.cell? ⟨b, 7, none⟩ = some (.map (some M1.bm)) := hb.at rfl; have a6 : w.cell? ⟨b, 6, none⟩ = some (.int .i64 ((i : Int) + 1)) := hb.at rfl; (go_simp; with_reducible rfl))
      simp only [Act.put, lyA, lyB, lyC, lyD, lyE, lyF]
      refine JW 8 (v := ?vh9) rfl (by kernel_rfl) rfl ?yh9 xh ?rh9
      case yh9 => (intro w hw; obtain ⟨q0, q1, q2, q3⟩ := (kc6.out.ext hw).c4; have hb := hb6.out.ext hw; have a7 : w.cell? ⟨b, 7, none⟩ = some (.map (some M1.bm)) := hb.at rfl; have a6 : w.cell? ⟨b, 6, none⟩ = some (.int .i64 ((i : Int) + 1)) := hb.at rfl; (go_simp; with_reducible rfl))
      simp only [Act.put, lyA, lyB, lyC, lyD, lyE, lyF]
      refine J_one 9 rfl (by kernel_rfl) (fun K hK => ?_)
      obtain ⟨w9, hup, hmap, hg9, hs9⟩ := (hcm6.out.ext xh).store (t := 88) Tryz.underlying88 ((i : Int) + 1) (chV o n)
      unfold chV at hup
      change Sem.run _ (Instr.mapUpdate _ _ (.int .i64 ((i : Int) + 1)) _) _ = _ at hup
      have x9 := hid (xh)
      go_simp
      refine hK _ _ ⟨fun h => absurd rfl h, ?_⟩
      clear hK K
      try simp only [Act.put, lyA, lyB, lyC, lyD, lyE, lyF]
      refine J_done (by kernel_rfl) (OnlyOn.normal ?_)
      have hm9 := hid (((hm6.out.ext x9.out).mono (fun q e => (Or.inr e : M1.τ q = .chm ∨ M1.τ q = .now ((i : Int) + 1)))).grown hg9 (fun g e => by injection e with e; rw [← e]; exact .inl (.inl H1.out.tc)))
      have hbl := fun (k : Nat) (hk : k < w6.heap.size) (hn : k ≠ M1.bm) => (hg9.block k (Nat.lt_of_lt_of_le hk x9.out.size) (fun e => by injection e with e; exact hn e)).trans (x9.out.block hk)
      have ho9 := ho6.out.keep (hbl _ ho6.out.lt.2 hne.out.2.2.2.1)
      have hn9 := hn6.out.keep (hbl _ hn6.out.lt.2 hne.out.2.2.2.2)
      have hs9' := hid (show w4.heap.size ≤ w9.heap.size from by rw [hs9]; exact Nat.le_trans hs6.out x9.out.size)
      have hres : Hid (AltTo w w9 lo b s p fs rs vb ra mode ((i : Int) + 1) ⟨(rth vb i).gone, (rth vb i).v.set k y⟩ i M) := alt_ok H1.out hi hmap ho9 hn9 hτ.out hτo.out hτn.out (fun q hq => ⟨(hbd.out q hq).1, Nat.lt_of_lt_of_le (hbd.out q hq).2 hs9'.out⟩) hm9.out m1.out hfM.out hτF.out hm.out
      clear H1 hm9 hbl ho9 hn9 hg9 hup hmap hs9 hcm6 hb6 hm6 kc6
      go_wp2
      go_ret
      exact ⟨rfl, hres.out⟩
    · replace hek := hid (show ∀ e ∈ M1.ch, e.1 ≠ (i : Int) + 1 from fun e he h => hek ⟨e, he, h⟩)
      have hvr := hid (H1.out.un i hi hek.out)
      have hcp := hid (fun w' (hx : Ext w1 w') => copied_any (rth rs i).gone (rrth M1.t.rr i).A fs.length (rrth M1.t.rr i).c (rth rs i).v w' (by have h := (hv.out.ext hx).rd.2; rw [hv.out.2.1] at h; exact h) (by omega))
      have hm3 := hid hv.out.2.2.1
      have xd := (Ext.refl w1).drew_right
      refine region_J (fun w' => Ext w1 w') 15 (by kernel_rfl) ?_
      generalize w1.drew = dd at xd ⊢
      refine JR 0 (v := ?vd1) rfl (by kernel_rfl) rfl ?yd1 xd ?rd1
      case yd1 => (intro w hw; (go_simp; with_reducible rfl))
      simp only [Act.put, lyA, lyB, lyC, lyD, lyE, lyF]
      refine JR 1 (v := ?vd2) rfl (by kernel_rfl) rfl ?yd2 xd ?rd2
      case yd2 => (intro w hw; (go_simp; with_reducible rfl))
      simp only [Act.put, lyA, lyB, lyC, lyD, lyE, lyF]
      refine JR 2 (v := ?vd3) rfl (by kernel_rfl) rfl ?yd3 xd ?rd3
      case yd3 => (intro w hw; (go_simp; with_reducible rfl))
      simp only [Act.put, lyA, lyB, lyC, lyD, lyE, lyF]
      refine JR 3 (v := ?vd4) rfl (by kernel_rfl) rfl ?yd4 xd ?rd4
      case yd4 => (intro w hw; obtain ⟨a0, a2, a3, a4, a5, a6, a7, a8, a21⟩ := (H1.out.ext hw).c; (go_simp; with_reducible rfl))
      simp only [Act.put, lyA, lyB, lyC, lyD, lyE, lyF]
      refine JR 4 (v := ?vd5) rfl (by kernel_rfl) rfl ?yd5 xd ?rd5
      case yd5 => (intro w hw; (go_simp; with_reducible rfl))
      simp only [Act.put, lyA, lyB, lyC, lyD, lyE, lyF]
      refine JR 5 (v := ?vd6) rfl (by kernel_rfl) rfl ?yd6 xd ?rd6
      case yd6 => (intro w hw; (go_simp; with_reducible rfl))
      simp only [Act.put, lyA, lyB, lyC, lyD, lyE, lyF]
      refine JR 6 (v := ?vd7) rfl (by kernel_rfl) rfl ?yd7 xd ?rd7
      case yd7 => (intro w hw; (go_simp; with_reducible rfl))
      simp only [Act.put, lyA, lyB, lyC, lyD, lyE, lyF]
      refine JR 7 (v := ?vd8) rfl (by kernel_rfl) rfl ?yd8 xd ?rd8
      case yd8 => (intro w hw; obtain ⟨a0, a2, a3, a4, a5, a6, a7, a8, a21⟩ := (H1.out.ext hw).c; (go_simp; with_reducible rfl))
      simp only [Act.put, lyA, lyB, lyC, lyD, lyE, lyF]
      refine JR 8 (v := ?vd9) rfl (by kernel_rfl) rfl ?yd9 xd ?rd9
      case yd9 => (intro w hw; obtain ⟨a0, a2, a3, a4, a5, a6, a7, a8, a21⟩ := (H1.out.ext hw).c; have hlk := look88_no (H1.out.ext hw).cm hek.out true; rw [if_pos rfl] at hlk; unfold chZ at hlk; (go_simp; with_reducible rfl))
      simp only [Act.put, lyA, lyB, lyC, lyD, lyE, lyF]
      refine JR 9 (v := ?vd10) rfl (by kernel_rfl) rfl ?yd10 xd ?rd10
      case yd10 => (intro w hw; (go_simp; with_reducible rfl))
      simp only [Act.put, lyA, lyB, lyC, lyD, lyE, lyF]
      refine JR 10 (v := ?vd11) rfl (by kernel_rfl) rfl ?yd11 xd ?rd11
      case yd11 => (intro w hw; (go_simp; with_reducible rfl))
      simp only [Act.put, lyA, lyB, lyC, lyD, lyE, lyF]
      refine JR 11 (v := ?vd12) rfl (by kernel_rfl) rfl ?yd12 xd ?rd12
      case yd12 => (intro w hw; (go_simp; with_reducible rfl))
      simp only [Act.put, lyA, lyB, lyC, lyD, lyE, lyF]
      refine J_one 12 rfl (by kernel_rfl) (fun K hK => ?_)
      go_simp
      obtain ⟨wd13, bd13, ed13, gd13, hd13, cd13, hxd13, ld13⟩ := alloc_at dd [.bool false, .slice none 0 0, .bool false, .slice none 0 0] 156
      simp only [ed13, gd13]
      have zd13 : w1.heap.size ≤ bd13 := by rw [← gd13]; exact (xd).size
      have yd13 : dd.heap.size ≤ bd13 := by rw [← gd13]; exact Nat.le_refl _
      clear ed13 gd13 cd13
      refine hK _ _ ⟨fun _ => ((xd).trans hxd13), ?_⟩
      clear hK K
      try simp only [Act.put, lyA, lyB, lyC, lyD, lyE, lyF]
      have xd13 := ((xd).trans hxd13)
      refine J_one 13 rfl (by kernel_rfl) (fun K hK => ?_)
      refine step_store0 rfl 156 _ _ rfl bd13 [.bool false, .slice none 0 0, .bool false, .slice none 0 0] rfl rfl hd13 (by kernel_rfl) (by first | rfl | simp [Value.oneCell']) ?_
      obtain ⟨wd14, ed14, hd14, cd14, hxd14, -, hkd14⟩ := store_at (u := w1) [.bool false, .slice none 0 0, .bool false, .slice none 0 0] hd13 (xd13) zd13
      rw [ed14]
      clear ed14
      refine hK _ _ ⟨fun _ => hxd14, ?_⟩
      clear hK K
      try simp only [Act.put, lyA, lyB, lyC, lyD, lyE, lyF]
      refine JR 14 (v := ?vd15) rfl (by kernel_rfl) rfl ?yd15 hxd14 ?rd15
      case yd15 => (intro w hw; (go_simp; with_reducible rfl))
      simp only [Act.put, lyA, lyB, lyC, lyD, lyE, lyF]
      refine J_done (by kernel_rfl) (OnlyOn.normal ?_)
      have x3 := hid (hxd14)
      have kh := hid hd14
      have kz := hid zd13
      generalize wd14 = w3 at *
      generalize bd13 = gc at *
      go_upto_region 6 with fail
      have xc := (Ext.refl w3).drew_right
      refine region_J (fun w' => Ext w3 w') 27 (by kernel_rfl) ?_
      generalize w3.drew = dc at xc ⊢
      have hG := kh.out.ext xc
      refine JW 0 (v := ?vc1) rfl (by kernel_rfl) rfl ?yc1 xc ?rc1
      case yc1 => (intro w hw; (go_simp; with_reducible rfl))
      simp only [Act.put, lyA, lyB, lyC, lyD, lyE, lyF]
      refine JW 1 (v := ?vc2) rfl (by kernel_rfl) rfl ?yc2 xc ?rc2
      case yc2 => (intro w hw; (go_simp; with_reducible rfl))
      simp only [Act.put, lyA, lyB, lyC, lyD, lyE, lyF]
      refine JW 2 (v := ?vc3) rfl (by kernel_rfl) rfl ?yc3 xc ?rc3
      case yc3 => (intro w hw; (go_simp; with_reducible rfl))
      simp only [Act.put, lyA, lyB, lyC, lyD, lyE, lyF]
      refine JW 3 (v := ?vc4) rfl (by kernel_rfl) rfl ?yc4 xc ?rc4
      case yc4 => (intro w hw; (go_simp; with_reducible rfl))
      simp only [Act.put, lyA, lyB, lyC, lyD, lyE, lyF]
      refine JW 4 (v := ?vc5) rfl (by kernel_rfl) rfl ?yc5 xc ?rc5
      case yc5 => (intro w hw; obtain ⟨a0, a2, a3, a4, a5, a6, a7, a8, a21⟩ := (H1.out.ext (x3.out.trans hw)).c; obtain ⟨g', e', -, -, r0, r1, -⟩ := (H1.out.ext (x3.out.trans hw)).ow.at_ hi; rw [eB] at e' a4; injection e' with e'; injection e' with e'; subst e'; (go_simp; with_reducible rfl))
      simp only [Act.put, lyA, lyB, lyC, lyD, lyE, lyF]
      refine JW 5 (v := ?vc6) rfl (by kernel_rfl) rfl ?yc6 xc ?rc6
      case yc6 => (intro w hw; (go_simp; with_reducible rfl))
      simp only [Act.put, lyA, lyB, lyC, lyD, lyE, lyF]
      refine JW 6 (v := ?vc7) rfl (by kernel_rfl) rfl ?yc7 xc ?rc7
      case yc7 => (intro w hw; (go_simp; with_reducible rfl))
      simp only [Act.put, lyA, lyB, lyC, lyD, lyE, lyF]
      refine JW 7 (v := ?vc8) rfl (by kernel_rfl) rfl ?yc8 xc ?rc8
      case yc8 => (intro w hw; (go_simp; with_reducible rfl))
      simp only [Act.put, lyA, lyB, lyC, lyD, lyE, lyF]
      refine JW 8 (v := ?vc9) rfl (by kernel_rfl) rfl ?yc9 xc ?rc9
      case yc9 => (intro w hw; obtain ⟨a0, a2, a3, a4, a5, a6, a7, a8, a21⟩ := (H1.out.ext (x3.out.trans hw)).c; obtain ⟨g', e', -, -, r0, r1, -⟩ := (H1.out.ext (x3.out.trans hw)).ow.at_ hi; rw [eB] at e' a4; injection e' with e'; injection e' with e'; subst e'; (go_simp; with_reducible rfl))
      simp only [Act.put, lyA, lyB, lyC, lyD, lyE, lyF]
      refine JW 9 (v := ?vc10) rfl (by kernel_rfl) rfl ?yc10 xc ?rc10
      case yc10 => (intro w hw; (go_simp; with_reducible rfl))
      simp only [Act.put, lyA, lyB, lyC, lyD, lyE, lyF]
      refine JW 10 (v := ?vc11) rfl (by kernel_rfl) rfl ?yc11 xc ?rc11
      case yc11 => (intro w hw; (go_simp; with_reducible rfl))
      simp only [Act.put, lyA, lyB, lyC, lyD, lyE, lyF]
      refine JW 11 (v := ?vc12) rfl (by kernel_rfl) rfl ?yc12 xc ?rc12
      case yc12 => (intro w hw; obtain ⟨a0, a2, a3, a4, a5, a6, a7, a8, a21⟩ := (H1.out.ext (x3.out.trans hw)).c; obtain ⟨g', e', -, -, r0, r1, -⟩ := (H1.out.ext (x3.out.trans hw)).ow.at_ hi; rw [eB] at e' a4; injection e' with e'; injection e' with e'; subst e'; (go_simp; with_reducible rfl))
      simp only [Act.put, lyA, lyB, lyC, lyD, lyE, lyF]
      refine JW 13 (v := ?vc13) rfl (by kernel_rfl) rfl ?yc13 xc ?rc13
      case yc13 => (intro w hw; (go_simp; with_reducible rfl))
      simp only [Act.put, lyA, lyB, lyC, lyD, lyE, lyF]
      refine JW 14 (v := ?vc14) rfl (by kernel_rfl) rfl ?yc14 xc ?rc14
      case yc14 => (intro w hw; (go_simp; with_reducible rfl))
      simp only [Act.put, lyA, lyB, lyC, lyD, lyE, lyF]
      refine JW 15 (v := ?vc15) rfl (by kernel_rfl) rfl ?yc15 xc ?rc15
      case yc15 => (intro w hw; (go_simp; with_reducible rfl))
      simp only [Act.put, lyA, lyB, lyC, lyD, lyE, lyF]
      refine JW 16 (v := ?vc16) rfl (by kernel_rfl) rfl ?yc16 xc ?rc16
      case yc16 => (intro w hw; (go_simp; with_reducible rfl))
      simp only [Act.put, lyA, lyB, lyC, lyD, lyE, lyF]
      refine JW 17 (v := ?vc17) rfl (by kernel_rfl) rfl ?yc17 xc ?rc17
      case yc17 => (intro w hw; obtain ⟨a0, a2, a3, a4, a5, a6, a7, a8, a21⟩ := (H1.out.ext (x3.out.trans hw)).c; obtain ⟨g', e', -, -, r0, r1, -⟩ := (H1.out.ext (x3.out.trans hw)).ow.at_ hi; rw [eB] at e' a4; injection e' with e'; injection e' with e'; subst e'; (go_simp; with_reducible rfl))
      simp only [Act.put, lyA, lyB, lyC, lyD, lyE, lyF]
      refine JW 18 (v := ?vc18) rfl (by kernel_rfl) rfl ?yc18 xc ?rc18
      case yc18 => (intro w hw; (go_simp; with_reducible rfl))
      simp only [Act.put, lyA, lyB, lyC, lyD, lyE, lyF]
      refine JW 19 (v := ?vc19) rfl (by kernel_rfl) rfl ?yc19 xc ?rc19
      case yc19 => (intro w hw; (go_simp; with_reducible rfl))
      simp only [Act.put, lyA, lyB, lyC, lyD, lyE, lyF]
      refine JW 20 (v := ?vc20) rfl (by kernel_rfl) rfl ?yc20 xc ?rc20
      case yc20 => (intro w hw; (go_simp; with_reducible rfl))
      simp only [Act.put, lyA, lyB, lyC, lyD, lyE, lyF]
      refine JW 21 (v := ?vc21) rfl (by kernel_rfl) rfl ?yc21 xc ?rc21
      case yc21 => (intro w hw; obtain ⟨a0, a2, a3, a4, a5, a6, a7, a8, a21⟩ := (H1.out.ext (x3.out.trans hw)).c; obtain ⟨g', e', -, -, r0, r1, -⟩ := (H1.out.ext (x3.out.trans hw)).ow.at_ hi; rw [eB] at e' a4; injection e' with e'; injection e' with e'; subst e'; (go_simp; with_reducible rfl))
      simp only [Act.put, lyA, lyB, lyC, lyD, lyE, lyF]
      refine JW 22 (v := ?vc22) rfl (by kernel_rfl) rfl ?yc22 xc ?rc22
      case yc22 => (intro w hw; (go_simp; with_reducible rfl))
      simp only [Act.put, lyA, lyB, lyC, lyD, lyE, lyF]
      refine JW 23 (v := ?vc23) rfl (by kernel_rfl) rfl ?yc23 xc ?rc23
      case yc23 => (intro w hw; (go_simp; with_reducible rfl))
      simp only [Act.put, lyA, lyB, lyC, lyD, lyE, lyF]
      refine JW 24 (v := ?vc24) rfl (by kernel_rfl) rfl ?yc24 xc ?rc24
      case yc24 => (intro w hw; obtain ⟨a0, a2, a3, a4, a5, a6, a7, a8, a21⟩ := (H1.out.ext (x3.out.trans hw)).c; obtain ⟨g', e', -, -, r0, r1, -⟩ := (H1.out.ext (x3.out.trans hw)).ow.at_ hi; rw [eB] at e' a4; injection e' with e'; injection e' with e'; subst e'; (go_simp; with_reducible rfl))
      simp only [Act.put, lyA, lyB, lyC, lyD, lyE, lyF]
      refine J_one 12 rfl (by kernel_rfl) (fun K hK => ?_)
      go_simp
      refine (hcp.out _ (x3.out.trans xc)).mono ?_
      rintro e9 wc25 ⟨B1, d1, rfl, ob1, hxc25⟩
      obtain ⟨g1, eB1, ga1, gb1⟩ := own_blk ob1 (by omega)
      subst eB1
      have gw1 := hid (show w1.heap.size ≤ g1 from Nat.le_trans (x3.out.trans xc).size ga1)
      have gc1 := hid (show gc < g1 from Nat.lt_of_lt_of_le hG.lt ga1)
      have hO1 : OwV wc25 lo fs.length ⟨(rth rs i).gone, some ⟨g1, 0, none⟩, fs.length, d1⟩ (rth rs i) := ⟨rfl, rfl, hm3.out, g1, rfl, own_baseK ob1 (by have := (x3.out.trans xc).size; have := H1.out.bk.lt; have := (H1.out.bd b (by rw [H1.out.td]; simp)).1; omega)⟩
      refine hK _ _ ⟨fun _ => ((xc).trans hxc25), ?_⟩
      clear hK K
      try simp only [Act.put, lyA, lyB, lyC, lyD, lyE, lyF]
      replace hG := hG.ext hxc25
      have xc25 := ((xc).trans hxc25)
      refine J_one 25 rfl (by kernel_rfl) (fun K hK => ?_)
      go_simp
      refine (hcp.out _ (x3.out.trans xc25)).mono ?_
      rintro e9 wc26 ⟨B2, d2, rfl, ob2, hxc26⟩
      obtain ⟨g2, eB2, ga2, gb2⟩ := own_blk ob2 (by omega)
      subst eB2
      have gw2 := hid (show w1.heap.size ≤ g2 from Nat.le_trans (x3.out.trans xc25).size ga2)
      have gc2 := hid (show gc < g2 from Nat.lt_of_lt_of_le hG.lt ga2)
      have g12' := hid (show g1 < g2 from Nat.lt_of_lt_of_le hO1.lt.2 ga2)
      have hO2 : OwV wc26 lo fs.length ⟨(rth rs i).gone, some ⟨g2, 0, none⟩, fs.length, d2⟩ (rth rs i) := ⟨rfl, rfl, hm3.out, g2, rfl, own_baseK ob2 (by have := (x3.out.trans xc25).size; have := H1.out.bk.lt; have := (H1.out.bd b (by rw [H1.out.td]; simp)).1; omega)⟩
      refine hK _ _ ⟨fun _ => ((xc25).trans hxc26), ?_⟩
      clear hK K
      try simp only [Act.put, lyA, lyB, lyC, lyD, lyE, lyF]
      replace hG := hG.ext hxc26
      replace hO1 := hO1.ext hxc26
      have xc26 := ((xc25).trans hxc26)
      refine JW 26 (v := ?vc27) rfl (by kernel_rfl) rfl ?yc27 xc26 ?rc27
      case yc27 => (intro w hw; (go_simp; with_reducible rfl))
      simp only [Act.put, lyA, lyB, lyC, lyD, lyE, lyF]
      refine J_one 27 rfl (by kernel_rfl) (fun K hK => ?_)
      refine step_store0 rfl 156 _ _ rfl gc [.bool (rth rs i).gone, .slice (some ⟨g1, 0, none⟩) fs.length d1, .bool (rth rs i).gone, .slice (some ⟨g2, 0, none⟩) fs.length d2] rfl rfl hG (by kernel_rfl) (by first | rfl | simp [Value.oneCell']) ?_
      obtain ⟨wc28, ec28, hc28, cc28, hxc28, -, hkc28⟩ := store_at (u := w1) [.bool (rth rs i).gone, .slice (some ⟨g1, 0, none⟩) fs.length d1, .bool (rth rs i).gone, .slice (some ⟨g2, 0, none⟩) fs.length d2] hG ((x3.out.trans xc26)) kz.out
      rw [ec28]
      clear ec28
      refine hK _ _ ⟨fun h => absurd rfl h, ?_⟩
      clear hK K
      try simp only [Act.put, lyA, lyB, lyC, lyD, lyE, lyF]
      refine J_done (by kernel_rfl) (OnlyOn.normal ?_)
      have hk := hkc28
      have x4 := hid (hxc28)
      have kc := hid (HB.bk (xs := [.bool (rth rs i).gone, .slice (some ⟨g1, 0, none⟩) fs.length d1, .bool (rth rs i).gone, .slice (some ⟨g2, 0, none⟩) fs.length d2]) hc28 cc28)
      have hvo := hid (hO1.keep (hk g1 (by have := gc1.out; omega)))
      have hvn := hid (hO2.keep (hk g2 (by have := gc2.out; omega)))
      rw [← hvr.out] at hvn
      generalize wc28 = w4 at *
      clear hO1 hO2 hk
      obtain ⟨o, eo⟩ : ∃ o : Rr, o = ⟨(rth rs i).gone, some ⟨g1, 0, none⟩, fs.length, d1⟩ := ⟨_, rfl⟩
      obtain ⟨n, en⟩ : ∃ n : Rr, n = ⟨(rth vb i).gone, some ⟨g2, 0, none⟩, fs.length, d2⟩ := ⟨_, rfl⟩
      have ro : rb o = g1 := by rw [eo]; rfl
      have rn : rb n = g2 := by rw [en]; rfl
      have hne := hid (show gc ≠ rb o ∧ gc ≠ rb n ∧ rb o ≠ rb n ∧ rb o ≠ M1.bm ∧ rb n ≠ M1.bm from by
        have h1 := gc1.out
        have h2 := gc2.out
        have h3 := g12'.out
        have h4 := gw1.out
        have h5 := gw2.out
        have h6 := H1.out.cm.lt
        rw [ro, rn]
        exact ⟨by omega, by omega, by omega, by omega, by omega⟩)
      have hgN := hid (show M1.τ (rb n) = .now ((i : Int) + 1) ∨ w1.heap.size ≤ rb n from .inr (by rw [rn]; exact gw2.out))
      obtain ⟨τ', hτ, hτo, hτn, hbd, hτF⟩ : ∃ τ' : Nat → Tg, Hid (∀ q, M1.τ q ≠ .no → τ' q = M1.τ q) ∧ Hid (τ' (rb o) = .old ((i : Int) + 1)) ∧ Hid (τ' (rb n) = .now ((i : Int) + 1)) ∧ Hid (∀ q, τ' q ≠ .no → lo ≤ q ∧ q < w4.heap.size) ∧ Hid (∀ q, τ' q ≠ .no → M1.τ q ≠ .no ∨ w.heap.size ≤ q) := by
        have h3 := g12'.out
        have h4 := gw1.out
        have h5 := gw2.out
        have h6 := hvo.out.lt
        have h7 := hvn.out.lt
        have h8 := hws.out
        refine ⟨fun q => if q = g1 then .old ((i : Int) + 1) else if q = g2 then .now ((i : Int) + 1) else M1.τ q, hid (fun q hq => ?_), hid (by rw [ro]; exact if_pos rfl), hid (by rw [rn]; show (if g2 = g1 then Tg.old ((i : Int) + 1) else if g2 = g2 then Tg.now ((i : Int) + 1) else M1.τ g2) = _; rw [if_neg (by omega), if_pos rfl]), hid (fun q hq => ?_), hid (fun q hq => ?_)⟩
        · have := (H1.out.bd q hq).2
          simp only
          rw [if_neg (by omega), if_neg (by omega)]
        · simp only at hq
          by_cases a1 : q = g1
          · subst a1; exact h6
          by_cases a2 : q = g2
          · subst a2; exact h7
          rw [if_neg a1, if_neg a2] at hq
          exact ⟨(H1.out.bd q hq).1, Nat.lt_of_lt_of_le (H1.out.bd q hq).2 x4.out.size⟩
        · simp only at hq
          by_cases a1 : q = g1
          · right; omega
          by_cases a2 : q = g2
          · right; omega
          rw [if_neg a1, if_neg a2] at hq
          exact .inl hq
      replace hvo := hid (show OwV w4 lo fs.length o (rth rs i) from by rw [eo]; exact hvo.out)
      replace hvn := hid (show OwV w4 lo fs.length n (rth vb i) from by rw [en]; rw [hvr.out] at hvn ⊢; exact hvn.out)
      replace kc := hid (show Bk w4 gc [.bool o.g, .slice o.A o.n o.c, .bool n.g, .slice n.A n.n n.c] 156 from by rw [eo, en, hvr.out]; exact kc.out)
      clear eo en ro rn gc1 gc2 g12' gw1 gw2 hek hcp hm3 x3 kh
      obtain ⟨n1, n2, n3, gN, nA, nrow⟩ := hvn.out
      have hrb := hid (show rb n = gN from by unfold rb; rw [nA]; rfl)
      have hcl := hid (cl61_any gc 2 gN k n.c g7 g12 fs.length lo y (rth vb i).v w4 (by have := kc.out.at (i := 3) rfl; rw [nA, n2] at this; exact this) (k7.out.ext x4.out) (k12.out.ext x4.out) nrow hk (by omega))
      clear n1 n2 n3 nA nrow
      go_wp2_with fail
      refine hcl.out.mono ?_
      rintro e9 w6 ⟨rfl, W, hW, hw6⟩
      have ho6 := hid (show OwV w6 lo fs.length o (rth rs i) from by rw [hw6]; exact (hvo.out.ext hW).keep ((setCells_at _ W gN _).2.2.2.2 _ (by rw [← hrb.out]; exact hne.out.2.2.1)))
      have hn6 := hid (show OwV w6 lo fs.length n ⟨(rth vb i).gone, (rth vb i).v.set k y⟩ from by rw [hw6, ← hrb.out]; exact (hvn.out.ext hW).turn hk y)
      have kc6 := hid (show Bk w6 gc [.bool o.g, .slice o.A o.n o.c, .bool n.g, .slice n.A n.n n.c] 156 from by rw [hw6]; exact (kc.out.ext hW).keep ((setCells_at _ W gN _).2.2.2.2 _ (by rw [← hrb.out]; exact hne.out.2.1)))
      have hm6 := hid (show Mv w1 w6 (fun q => M1.τ q = .now ((i : Int) + 1)) from by rw [hw6]; exact (Mv.of (x4.out.trans hW)).setC (by rw [← hrb.out]; exact hgN.out) _ _)
      have hs6 := hid (show w4.heap.size ≤ w6.heap.size from by rw [hw6, (setCells_at _ W gN _).1]; exact hW.size)
      clear hW hw6
      have hb6 := hid (H1.out.bk.keep (hm6.out.at H1.out.bk.lt (fun e => by rw [H1.out.td] at e; cases e)))
      have hcm6 := hid (H1.out.cm.keep (hm6.out.at H1.out.cm.lt (fun e => by rw [H1.out.tc] at e; cases e)))
      clear hcl kc hvo hvn
      go_upto_region 8 with fail
      have xk := (Ext.refl w6).drew_right
      refine region_J (fun w' => Ext w6 w') 9 (by kernel_rfl) ?_
      generalize w6.drew = dk at xk ⊢
      refine JW 0 (v := ?vk1) rfl (by kernel_rfl) rfl ?yk1 xk ?rk1
      case yk1 => (intro w hw; (go_simp; with_reducible rfl))
      simp only [Act.put, lyA, lyB, lyC, lyD, lyE, lyF]
      refine JW 1 (v := ?vk2) rfl (by kernel_rfl) rfl ?yk2 xk ?rk2
      case yk2 => (intro w hw; (go_simp; with_reducible rfl))
      simp only [Act.put, lyA, lyB, lyC, lyD, lyE, lyF]
      refine JW 2 (v := ?vk3) rfl (by kernel_rfl) rfl ?yk3 xk ?rk3
      case yk3 => (intro w hw; (go_simp; with_reducible rfl))
      simp only [Act.put, lyA, lyB, lyC, lyD, lyE, lyF]
      refine JW 3 (v := ?vk4) rfl (by kernel_rfl) rfl ?yk4 xk ?rk4
      case yk4 => (intro w hw; obtain ⟨q0, q1, q2, q3⟩ := (kc6.out.ext hw).c4; have hb := hb6.out.ext hw; have a7 : w.cell? ⟨b, 7, none⟩ = some (.map (some M1.bm)) := hb.at rfl; have a6 : w.cell? ⟨b, 6, none⟩ = some (.int .i64 ((i : Int) + 1)) := hb.at rfl; (go_simp; with_reducible rfl))
      simp only [Act.put, lyA, lyB, lyC, lyD, lyE, lyF]
      refine JW 4 (v := ?vk5) rfl (by kernel_rfl) rfl ?yk5 xk ?rk5
      case yk5 => (intro w hw; (go_simp; with_reducible rfl))
      simp only [Act.put, lyA, lyB, lyC, lyD, lyE, lyF]
      refine JW 5 (v := ?vk6) rfl (by kernel_rfl) rfl ?yk6 xk ?rk6
      case yk6 => (intro w hw; (go_simp; with_reducible rfl))
      simp only [Act.put, lyA, lyB, lyC, lyD, lyE, lyF]
      refine JW 6 (v := ?vk7) rfl (by kernel_rfl) rfl ?yk7 xk ?rk7
      case yk7 => (intro w hw; (go_simp; with_reducible rfl))
      simp only [Act.put, lyA, lyB, lyC, lyD, lyE, lyF]
      refine JW 7 (v := ?vk8) rfl (by kernel_rfl) rfl ?yk8 xk ?rk8
      case yk8 => (intro w hw; obtain ⟨q0, q1, q2, q3⟩ := (kc6.out.ext hw).c4; have hb := hb6.out.ext hw; have a7 : w.cell? ⟨b, 7, none⟩ = some (.map (some M1.bm)) := hb.at rfl; have a6 : w.cell? ⟨b, 6, none⟩ = some (.int .i64 ((i : Int) + 1)) := hb.at rfl; (go_simp; with_reducible rfl))
      simp only [Act.put, lyA, lyB, lyC, lyD, lyE, lyF]
      refine JW 8 (v := ?vk9) rfl (by kernel_rfl) rfl ?yk9 xk ?rk9
      case yk9 => (intro w hw; obtain ⟨q0, q1, q2, q3⟩ := (kc6.out.ext hw).c4; have hb := hb6.out.ext hw; have a7 : w.cell? ⟨b, 7, none⟩ = some (.map (some M1.bm)) := hb.at rfl; have a6 : w.cell? ⟨b, 6, none⟩ = some (.int .i64 ((i : Int) + 1)) := hb.at rfl; (go_simp; with_reducible rfl))
      simp only [Act.put, lyA, lyB, lyC, lyD, lyE, lyF]
      refine J_one 9 rfl (by kernel_rfl) (fun K hK => ?_)
      obtain ⟨w9, hup, hmap, hg9, hs9⟩ := (hcm6.out.ext xk).store (t := 88) Tryz.underlying88 ((i : Int) + 1) (chV o n)
      unfold chV at hup
      change Sem.run _ (Instr.mapUpdate _ _ (.int .i64 ((i : Int) + 1)) _) _ = _ at hup
      have x9 := hid (xk)
      go_simp
      refine hK _ _ ⟨fun h => absurd rfl h, ?_⟩
      clear hK K
      try simp only [Act.put, lyA, lyB, lyC, lyD, lyE, lyF]
      refine J_done (by kernel_rfl) (OnlyOn.normal ?_)
      have hm9 := hid (((hm6.out.ext x9.out).mono (fun q e => (Or.inr e : M1.τ q = .chm ∨ M1.τ q = .now ((i : Int) + 1)))).grown hg9 (fun g e => by injection e with e; rw [← e]; exact .inl (.inl H1.out.tc)))
      have hbl := fun (k : Nat) (hk : k < w6.heap.size) (hn : k ≠ M1.bm) => (hg9.block k (Nat.lt_of_lt_of_le hk x9.out.size) (fun e => by injection e with e; exact hn e)).trans (x9.out.block hk)
      have ho9 := ho6.out.keep (hbl _ ho6.out.lt.2 hne.out.2.2.2.1)
      have hn9 := hn6.out.keep (hbl _ hn6.out.lt.2 hne.out.2.2.2.2)
      have hs9' := hid (show w4.heap.size ≤ w9.heap.size from by rw [hs9]; exact Nat.le_trans hs6.out x9.out.size)
      have hres : Hid (AltTo w w9 lo b s p fs rs vb ra mode ((i : Int) + 1) ⟨(rth vb i).gone, (rth vb i).v.set k y⟩ i M) := alt_ok H1.out hi hmap ho9 hn9 hτ.out hτo.out hτn.out (fun q hq => ⟨(hbd.out q hq).1, Nat.lt_of_lt_of_le (hbd.out q hq).2 hs9'.out⟩) hm9.out m1.out hfM.out hτF.out hm.out
      clear H1 hm9 hbl ho9 hn9 hg9 hup hmap hs9 hcm6 hb6 hm6 kc6
      go_wp2
      go_ret
      exact ⟨rfl, hres.out⟩
theorem alterG_any (i g5 : Nat) (q : Bool) (w : World) (H : DeskI w lo b s p fs rs vb ra mode ((i : Int) + 1) M) (hi : i < rs.length) (hc : mode = 0 → M.ch = []) (hl : rs.length ≤ 300) (hf : 0 < fs.length ∧ fs.length ≤ 16) (k5 : Bk w g5 [.bool q] 4) (n5 : ¬ DeskF M g5) :
    Calls Tryz.prog 60 #[.pointer (some ⟨b, 0, none⟩), .int .i64 0, .pointer (some ⟨b, 5, none⟩), .func (.func 87) #[] #[.pointer (some ⟨g5, 0, none⟩)]] w fun e w' => e = .returned (.int .i64 0) ∧ AltTo w w' lo b s p fs rs vb ra mode ((i : Int) + 1) ⟨q, (rth vb i).v⟩ i M := by
  have hlk := hid (lock_any ((i : Int) + 1) w H (by omega))
  obtain ⟨a0, a2, a3, a4, a5, a6, a7, a8, a21⟩ := H.c
  have hfl := hid (show DeskF M M.bl from by unfold DeskF; rw [H.tl]; simp)
  have k5 := hid k5
  clear H
  go_enter Tryz.func60, Tryz.ntmps60
  go_wp2_with fail
  refine hlk.out.mono ?_
  rintro e w1 ⟨rfl, l', H1, m1⟩
  have k5 := hid (k5.out.keep (m1.at k5.out.lt (fun e => n5 (e ▸ hfl.out))))
  replace m1 := hid (m1.mono (fun k (e : k = M.bl) => (show DeskF M k from e ▸ hfl.out)))
  clear hlk a0 a2 a3 a4 a5 a6 a7 a8 a21
  obtain ⟨M1, hM1, hfM⟩ : ∃ M1 : Dm, M1 = { M with lk := l' } ∧ ∀ k, DeskF M1 k ↔ DeskF M k := ⟨_, rfl, fun k => Iff.rfl⟩
  have hc1 : mode = 0 → M1.ch = [] := by rw [hM1]; exact hc
  rw [← hM1] at H1
  have H1 := hid H1
  have hfM := hid hfM
  have hc1 := hid hc1
  clear hM1 hc
  have hws := hid m1.out.size
  obtain ⟨a0, a2, a3, a4, a5, a6, a7, a8, a21⟩ := H1.out.c
  obtain ⟨gB, eB, hg1, hg2, r0, r1, hv⟩ := H1.out.ow.at_ hi
  have hv := hid hv
  clear r0 r1
  have i0 : ¬ ((i : Int) + 1 < 0) := by omega
  have i3 := IntWalk.i64_in ((i : Int) + 1 - 1) (by omega)
  have i4 := IntWalk.i64_in (i : Int) (by omega)
  have i5 : 0 ≤ (i : Int) ∧ (i : Int) < rs.length := by omega
  by_cases hm : mode = 0
  · have hch := hid (hc1.out hm)
    have hvb := hid (H1.out.vbrs hch.out)
    have hm0 : (mode == 0) = true := by simp [hm]
    replace hm := hid hm
    go_upto_region 12 with fail
    clear a0 a2 a3 a4 a5 a6 a7 a8 a21
    have nbF := hid (show ¬ M1.t.F b from fun hF => by have := H1.out.tt b hF; rw [H1.out.td] at this; cases this)
    have hxd := hid ((Ext.refl w1).drew_right)
    have hcl := hid (fun w' (hx : Ext w1 w') => cl87_any gB (i * 2) g5 q (rth rs i).gone w' (by
      obtain ⟨g', e', -, -, r0, -, -⟩ := (H1.out.ext hx).ow.at_ hi
      rw [eB] at e'; injection e' with e'; injection e' with e'; subst e'
      exact r0) (by
      have h1 := (H1.out.ext hx).ow.2.1.1
      rw [(H1.out.ext hx).ow.2.2.1, eB] at h1
      exact (row_there (o := i * 2) (s := 1) h1 (by omega) 0 (by omega)).2) (k5.out.ext hx))
    have hgF := hid (show M1.t.F gB from .inr (.inl (by rw [eB]; rfl)))
    have xa : (fun w' => Mv w1 w' M1.t.F) w1.drew := Mv.of (Ext.refl w1).drew_right
    refine region_J (fun w' => Mv w1 w' M1.t.F) 13 (by kernel_rfl) ?_
    generalize w1.drew = da at * 
    refine JR 0 (v := ?va1) rfl (by kernel_rfl) rfl ?ya1 xa ?ra1
    case ya1 => (intro w hw; (go_simp; with_reducible rfl))
    simp only [Act.put, lyA, lyB, lyC, lyD, lyE, lyF]
    refine JR 1 (v := ?va2) rfl (by kernel_rfl) rfl ?ya2 xa ?ra2
    case ya2 => (intro w hw; (go_simp; with_reducible rfl))
    simp only [Act.put, lyA, lyB, lyC, lyD, lyE, lyF]
    refine JR 2 (v := ?va3) rfl (by kernel_rfl) rfl ?ya3 xa ?ra3
    case ya3 => (intro w hw; (go_simp; with_reducible rfl))
    simp only [Act.put, lyA, lyB, lyC, lyD, lyE, lyF]
    refine JR 3 (v := ?va4) rfl (by kernel_rfl) rfl ?ya4 xa ?ra4
    case ya4 => (intro w hw; (go_simp; with_reducible rfl))
    simp only [Act.put, lyA, lyB, lyC, lyD, lyE, lyF]
    refine JR 4 (v := ?va5) rfl (by kernel_rfl) rfl ?ya5 xa ?ra5
    case ya5 => (intro w hw; (go_simp; with_reducible rfl))
    simp only [Act.put, lyA, lyB, lyC, lyD, lyE, lyF]
    refine JR 5 (v := ?va6) rfl (by kernel_rfl) rfl ?ya6 xa ?ra6
    case ya6 => (intro w hw; have hb := H1.out.bk.keep (hw.at H1.out.bk.lt nbF.out); have a4 : w.cell? ⟨b, 4, none⟩ = some (.slice M1.t.B rs.length M1.t.d) := (by rw [← H1.out.ow.2.2.2.1]; exact hb.at rfl); rw [eB] at a4; have a6 : w.cell? ⟨b, 6, none⟩ = some (.int .i64 ((i : Int) + 1)) := hb.at rfl; (go_simp; with_reducible rfl))
    simp only [Act.put, lyA, lyB, lyC, lyD, lyE, lyF]
    refine JR 6 (v := ?va7) rfl (by kernel_rfl) rfl ?ya7 xa ?ra7
    case ya7 => (intro w hw; (go_simp; with_reducible rfl))
    simp only [Act.put, lyA, lyB, lyC, lyD, lyE, lyF]
    refine JR 7 (v := ?va8) rfl (by kernel_rfl) rfl ?ya8 xa ?ra8
    case ya8 => (intro w hw; (go_simp; with_reducible rfl))
    simp only [Act.put, lyA, lyB, lyC, lyD, lyE, lyF]
    refine JR 8 (v := ?va9) rfl (by kernel_rfl) rfl ?ya9 xa ?ra9
    case ya9 => (intro w hw; (go_simp; with_reducible rfl))
    simp only [Act.put, lyA, lyB, lyC, lyD, lyE, lyF]
    refine JR 9 (v := ?va10) rfl (by kernel_rfl) rfl ?ya10 xa ?ra10
    case ya10 => (intro w hw; have hb := H1.out.bk.keep (hw.at H1.out.bk.lt nbF.out); have a4 : w.cell? ⟨b, 4, none⟩ = some (.slice M1.t.B rs.length M1.t.d) := (by rw [← H1.out.ow.2.2.2.1]; exact hb.at rfl); rw [eB] at a4; have a6 : w.cell? ⟨b, 6, none⟩ = some (.int .i64 ((i : Int) + 1)) := hb.at rfl; (go_simp; with_reducible rfl))
    simp only [Act.put, lyA, lyB, lyC, lyD, lyE, lyF]
    refine JR 10 (v := ?va11) rfl (by kernel_rfl) rfl ?ya11 xa ?ra11
    case ya11 => (intro w hw; (go_simp; with_reducible rfl))
    simp only [Act.put, lyA, lyB, lyC, lyD, lyE, lyF]
    refine JR 11 (v := ?va12) rfl (by kernel_rfl) rfl ?ya12 xa ?ra12
    case ya12 => (intro w hw; (go_simp; with_reducible rfl))
    simp only [Act.put, lyA, lyB, lyC, lyD, lyE, lyF]
    refine J_one 12 rfl (by kernel_rfl) (fun K hK => ?_)
    go_simp
    refine (hcl.out _ hxd.out).mono ?_
    rintro e9 w2 ⟨rfl, hw2⟩
    refine hK _ _ ⟨fun _ => (by rw [hw2]; exact (Mv.of hxd.out).set (.inl hgF.out) _ _), ?_⟩
    clear hK K
    try simp only [Act.put, lyA, lyB, lyC, lyD, lyE, lyF]
    have xa13 : (fun w' => Mv w1 w' M1.t.F) w2 := (by rw [hw2]; exact (Mv.of hxd.out).set (.inl hgF.out) _ _)
    refine J_done (by kernel_rfl) (OnlyOn.normal ?_)
    have hW := hxd
    have hm2 := hid xa13
    have hres : Hid (AltTo w w2 lo b s p fs rs vb ra mode ((i : Int) + 1) ⟨q, (rth vb i).v⟩ i M) := by
      have hU := (H1.out.ow.ext hW.out).turnG hi eB q
      rw [← hw2] at hU
      have h := H1.out.direct hch.out hU ⟨rfl, rfl, rfl, rfl, rfl, rfl, fun k hk => OwTt.turnG_F hk⟩ hm2.out (by rw [List.length_set])
      rw [← hvb.out] at h
      exact hid ⟨_, _, h, by rw [List.length_set, hvb.out], fun _ => hch.out, m1.out.trans hm2.out (fun k hk => .inl ((hfM.out k).1 (by unfold DeskF; rw [H1.out.tt k hk]; simp))), fun k hk => .inl ((hfM.out k).1 hk)⟩
    clear H1 hcl hW hw2 hm2 hxd
    go_wp2
    go_ret
    exact ⟨rfl, hres.out⟩
  · have hm0 : (mode == 0) = false := by simp [hm]
    replace hm := hid hm
    go_upto_region 4 with fail
    clear a0 a2 a3 a4 a5 a6 a7 a8 a21
    by_cases hek : ∃ e ∈ M1.ch, e.1 = (i : Int) + 1
    · obtain ⟨e, he, hek⟩ := hek
      obtain ⟨j, hj, hej, hvo, hvn⟩ := H1.out.cv e he
      obtain rfl : i = j := by omega
      have htv := hid (H1.out.tv e he)
      have he := hid he
      have hek := hid hek
      have hvo := hid hvo
      have hvn := hid hvn
      clear hej hj
      have xb := (Ext.refl w1).drew_right
      refine region_J (fun w' => Ext w1 w') 15 (by kernel_rfl) ?_
      generalize w1.drew = db at xb ⊢
      refine JR 0 (v := ?vb1) rfl (by kernel_rfl) rfl ?yb1 xb ?rb1
      case yb1 => (intro w hw; (go_simp; with_reducible rfl))
      simp only [Act.put, lyA, lyB, lyC, lyD, lyE, lyF]
      refine JR 1 (v := ?vb2) rfl (by kernel_rfl) rfl ?yb2 xb ?rb2
      case yb2 => (intro w hw; (go_simp; with_reducible rfl))
      simp only [Act.put, lyA, lyB, lyC, lyD, lyE, lyF]
      refine JR 2 (v := ?vb3) rfl (by kernel_rfl) rfl ?yb3 xb ?rb3
      case yb3 => (intro w hw; (go_simp; with_reducible rfl))
      simp only [Act.put, lyA, lyB, lyC, lyD, lyE, lyF]
      refine JR 3 (v := ?vb4) rfl (by kernel_rfl) rfl ?yb4 xb ?rb4
      case yb4 => (intro w hw; obtain ⟨a0, a2, a3, a4, a5, a6, a7, a8, a21⟩ := (H1.out.ext hw).c; (go_simp; with_reducible rfl))
      simp only [Act.put, lyA, lyB, lyC, lyD, lyE, lyF]
      refine JR 4 (v := ?vb5) rfl (by kernel_rfl) rfl ?yb5 xb ?rb5
      case yb5 => (intro w hw; (go_simp; with_reducible rfl))
      simp only [Act.put, lyA, lyB, lyC, lyD, lyE, lyF]
      refine JR 5 (v := ?vb6) rfl (by kernel_rfl) rfl ?yb6 xb ?rb6
      case yb6 => (intro w hw; (go_simp; with_reducible rfl))
      simp only [Act.put, lyA, lyB, lyC, lyD, lyE, lyF]
      refine JR 6 (v := ?vb7) rfl (by kernel_rfl) rfl ?yb7 xb ?rb7
      case yb7 => (intro w hw; (go_simp; with_reducible rfl))
      simp only [Act.put, lyA, lyB, lyC, lyD, lyE, lyF]
      refine JR 7 (v := ?vb8) rfl (by kernel_rfl) rfl ?yb8 xb ?rb8
      case yb8 => (intro w hw; obtain ⟨a0, a2, a3, a4, a5, a6, a7, a8, a21⟩ := (H1.out.ext hw).c; (go_simp; with_reducible rfl))
      simp only [Act.put, lyA, lyB, lyC, lyD, lyE, lyF]
      refine JR 8 (v := ?vb9) rfl (by kernel_rfl) rfl ?yb9 xb ?rb9
      case yb9 => (intro w hw; obtain ⟨a0, a2, a3, a4, a5, a6, a7, a8, a21⟩ := (H1.out.ext hw).c; have hlk := look88_mem (H1.out.ext hw).cm he.out true; rw [hek.out, if_pos rfl] at hlk; unfold chV at hlk; (go_simp; with_reducible rfl))
      simp only [Act.put, lyA, lyB, lyC, lyD, lyE, lyF]
      refine JR 9 (v := ?vb10) rfl (by kernel_rfl) rfl ?yb10 xb ?rb10
      case yb10 => (intro w hw; (go_simp; with_reducible rfl))
      simp only [Act.put, lyA, lyB, lyC, lyD, lyE, lyF]
      refine JR 10 (v := ?vb11) rfl (by kernel_rfl) rfl ?yb11 xb ?rb11
      case yb11 => (intro w hw; (go_simp; with_reducible rfl))
      simp only [Act.put, lyA, lyB, lyC, lyD, lyE, lyF]
      refine JR 11 (v := ?vb12) rfl (by kernel_rfl) rfl ?yb12 xb ?rb12
      case yb12 => (intro w hw; (go_simp; with_reducible rfl))
      simp only [Act.put, lyA, lyB, lyC, lyD, lyE, lyF]
      refine J_one 12 rfl (by kernel_rfl) (fun K hK => ?_)
      go_simp
      obtain ⟨wb13, bb13, eb13, gb13, hb13, cb13, hxb13, lb13⟩ := alloc_at db [.bool false, .slice none 0 0, .bool false, .slice none 0 0] 156
      simp only [eb13, gb13]
      have zb13 : w1.heap.size ≤ bb13 := by rw [← gb13]; exact (xb).size
      have yb13 : db.heap.size ≤ bb13 := by rw [← gb13]; exact Nat.le_refl _
      clear eb13 gb13 cb13
      refine hK _ _ ⟨fun _ => ((xb).trans hxb13), ?_⟩
      clear hK K
      try simp only [Act.put, lyA, lyB, lyC, lyD, lyE, lyF]
      have xb13 := ((xb).trans hxb13)
      refine J_one 13 rfl (by kernel_rfl) (fun K hK => ?_)
      refine step_store0 rfl 156 _ _ rfl bb13 [.bool e.2.1.g, .slice e.2.1.A e.2.1.n e.2.1.c, .bool e.2.2.g, .slice e.2.2.A e.2.2.n e.2.2.c] rfl rfl hb13 (by kernel_rfl) (by first | rfl | simp [Value.oneCell']) ?_
      obtain ⟨wb14, eb14, hb14, cb14, hxb14, -, hkb14⟩ := store_at (u := w1) [.bool e.2.1.g, .slice e.2.1.A e.2.1.n e.2.1.c, .bool e.2.2.g, .slice e.2.2.A e.2.2.n e.2.2.c] hb13 (xb13) zb13
      rw [eb14]
      clear eb14
      refine hK _ _ ⟨fun _ => hxb14, ?_⟩
      clear hK K
      try simp only [Act.put, lyA, lyB, lyC, lyD, lyE, lyF]
      refine JR 14 (v := ?vb15) rfl (by kernel_rfl) rfl ?yb15 hxb14 ?rb15
      case yb15 => (intro w hw; (go_simp; with_reducible rfl))
      simp only [Act.put, lyA, lyB, lyC, lyD, lyE, lyF]
      refine J_done (by kernel_rfl) (OnlyOn.normal ?_)
      have x4 := hid (hxb14)
      have kc := hid (HB.bk (xs := [.bool e.2.1.g, .slice e.2.1.A e.2.1.n e.2.1.c, .bool e.2.2.g, .slice e.2.2.A e.2.2.n e.2.2.c]) hb14 cb14)
      have kz := hid zb13
      generalize wb14 = w4 at *
      generalize bb13 = gc at *
      have hto := htv.out.1
      have htn := htv.out.2
      rw [hek.out] at hto htn
      have hlo := hvo.out.lt
      have hln := hvn.out.lt
      replace hvo := hid (hvo.out.ext x4.out)
      replace hvn := hid (hvn.out.ext x4.out)
      generalize e.2.1 = o at *
      generalize e.2.2 = n at *
      have hne := hid (show gc ≠ rb o ∧ gc ≠ rb n ∧ rb o ≠ rb n ∧ rb o ≠ M1.bm ∧ rb n ≠ M1.bm from ⟨by have := kz.out; omega, by have := kz.out; omega, fun e => (by rw [e, htn] at hto; cases hto), fun e => (by rw [e, H1.out.tc] at hto; cases hto), fun e => (by rw [e, H1.out.tc] at htn; cases htn)⟩)
      have hgN := hid (show M1.τ (rb n) = .now ((i : Int) + 1) ∨ w1.heap.size ≤ rb n from .inl htn)
      obtain ⟨τ', hτ, hτo, hτn, hbd, hτF⟩ : ∃ τ' : Nat → Tg, Hid (∀ q, M1.τ q ≠ .no → τ' q = M1.τ q) ∧ Hid (τ' (rb o) = .old ((i : Int) + 1)) ∧ Hid (τ' (rb n) = .now ((i : Int) + 1)) ∧ Hid (∀ q, τ' q ≠ .no → lo ≤ q ∧ q < w4.heap.size) ∧ Hid (∀ q, τ' q ≠ .no → M1.τ q ≠ .no ∨ w.heap.size ≤ q) :=
        ⟨M1.τ, fun _ _ => rfl, hto, htn, fun q hq => ⟨(H1.out.bd q hq).1, Nat.lt_of_lt_of_le (H1.out.bd q hq).2 x4.out.size⟩, fun q hq => .inl hq⟩
      clear hto htn hlo hln htv he hek
      obtain ⟨n1, n2, n3, gN, nA, nrow⟩ := hvn.out
      have hrb := hid (show rb n = gN from by unfold rb; rw [nA]; rfl)
      have hcl := hid (cl87_any gc 2 g5 q n.g w4 (kc.out.at rfl) (kc.out.free 2) (k5.out.ext x4.out))
      clear n1 n2 n3 nA nrow
      go_wp2_with fail
      refine hcl.out.mono ?_
      rintro e9 w6 ⟨rfl, hw6⟩
      have ho6 := hid (show OwV w6 lo fs.length o (rth rs i) from by rw [hw6]; exact hvo.out.keep ((setCell_at w4 gc 2 _).2 _ (Ne.symm hne.out.1)))
      have hn6 := hid (show OwV w6 lo fs.length ⟨q, n.A, n.n, n.c⟩ ⟨q, (rth vb i).v⟩ from by
        have h := hvn.out.keep (w' := w6) (by rw [hw6]; exact (setCell_at w4 gc 2 _).2 _ (Ne.symm hne.out.2.1))
        exact ⟨rfl, h.2.1, h.2.2.1, h.2.2.2⟩)
      have kc6 := hid (show Bk w6 gc [.bool o.g, .slice o.A o.n o.c, .bool q, .slice n.A n.n n.c] 156 from by rw [hw6]; exact kc.out.set 2 (.bool q))
      have hm6 := hid (show Mv w1 w6 (fun q => M1.τ q = .now ((i : Int) + 1)) from by rw [hw6]; exact (Mv.of x4.out).set (.inr kz.out) _ _)
      have hs6 := hid (show w4.heap.size ≤ w6.heap.size from by rw [hw6, (setCell_at _ _ _ _).1]; exact Nat.le_refl _)
      clear hw6
      have hb6 := hid (H1.out.bk.keep (hm6.out.at H1.out.bk.lt (fun e => by rw [H1.out.td] at e; cases e)))
      have hcm6 := hid (H1.out.cm.keep (hm6.out.at H1.out.cm.lt (fun e => by rw [H1.out.tc] at e; cases e)))
      clear hcl kc hvo hvn
      go_upto_region 8 with fail
      have xh := (Ext.refl w6).drew_right
      refine region_J (fun w' => Ext w6 w') 9 (by kernel_rfl) ?_
      generalize w6.drew = dh at xh ⊢
      refine JW 0 (v := ?vh1) rfl (by kernel_rfl) rfl ?yh1 xh ?rh1
      case yh1 => (intro w hw; (go_simp; with_reducible rfl))
      simp only [Act.put, lyA, lyB, lyC, lyD, lyE, lyF]
      refine JW 1 (v := ?vh2) rfl (by kernel_rfl) rfl ?yh2 xh ?rh2
      case yh2 => (intro w hw; (go_simp; with_reducible rfl))
      simp only [Act.put, lyA, lyB, lyC, lyD, lyE, lyF]
      refine JW 2 (v := ?vh3) rfl (by kernel_rfl) rfl ?yh3 xh ?rh3
      case yh3 => (intro w hw; (go_simp; with_reducible rfl))
      simp only [Act.put, lyA, lyB, lyC, lyD, lyE, lyF]
      refine JW 3 (v := ?vh4) rfl (by kernel_rfl) rfl ?yh4 xh ?rh4
      case yh4 => (intro w hw; obtain ⟨q0, q1, q2, q3⟩ := (kc6.out.ext hw).c4; have hb := hb6.out.ext hw; have a7 : w.cell? ⟨b, 7, none⟩ = some (.map (some M1.bm)) := hb.at rfl; have a6 : w.cell? ⟨b, 6, none⟩ = some (.int .i64 ((i : Int) + 1)) := hb.at rfl; (go_simp; with_reducible rfl))
      simp only [Act.put, lyA, lyB, lyC, lyD, lyE, lyF]
      refine JW 4 (v := ?vh5) rfl (by kernel_rfl) rfl ?yh5 xh ?rh5
      case yh5 => (intro w hw; (go_simp; with_reducible rfl))
      simp only [Act.put, lyA, lyB, lyC, lyD, lyE, lyF]
      refine JW 5 (v := ?vh6) rfl (by kernel_rfl) rfl ?yh6 xh ?rh6
      case yh6 => (intro w hw; (go_simp; with_reducible rfl))
      simp only [Act.put, lyA, lyB, lyC, lyD, lyE, lyF]
      refine JW 6 (v := ?vh7) rfl (by kernel_rfl) rfl ?yh7 xh ?rh7
      case yh7 => (intro w hw; (go_simp; with_reducible rfl))
      simp only [Act.put, lyA, lyB, lyC, lyD, lyE, lyF]
      refine JW 7 (v := ?vh8) rfl (by kernel_rfl) rfl ?yh8 xh ?rh8
      case yh8 => (intro w hw; obtain ⟨q0, q1, q2, q3⟩ := (kc6.out.ext hw).c4; have hb := hb6.out.ext hw; have a7 : w.cell? ⟨b, 7, none⟩ = some (.map (some M1.bm)) := hb.at rfl; have a6 : w.cell? ⟨b, 6, none⟩ = some (.int .i64 ((i : Int) + 1)) := hb.at rfl; (go_simp; with_reducible rfl))
      simp only [Act.put, lyA, lyB, lyC, lyD, lyE, lyF]
      refine JW 8 (v := ?vh9) rfl (by kernel_rfl) rfl ?yh9 xh ?rh9
      case yh9 => (intro w hw; obtain ⟨q0, q1, q2, q3⟩ := (kc6.out.ext hw).c4; have hb := hb6.out.ext hw; have a7 : w.cell? ⟨b, 7, none⟩ = some (.map (some M1.bm)) := hb.at rfl; have a6 : w.cell? ⟨b, 6, none⟩ = some (.int .i64 ((i : Int) + 1)) := hb.at rfl; (go_simp; with_reducible rfl))
      simp only [Act.put, lyA, lyB, lyC, lyD, lyE, lyF]
      refine J_one 9 rfl (by kernel_rfl) (fun K hK => ?_)
      obtain ⟨w9, hup, hmap, hg9, hs9⟩ := (hcm6.out.ext xh).store (t := 88) Tryz.underlying88 ((i : Int) + 1) (chV o ⟨q, n.A, n.n, n.c⟩)
      unfold chV at hup
      change Sem.run _ (Instr.mapUpdate _ _ (.int .i64 ((i : Int) + 1)) _) _ = _ at hup
      have x9 := hid (xh)
      go_simp
      refine hK _ _ ⟨fun h => absurd rfl h, ?_⟩
      clear hK K
      try simp only [Act.put, lyA, lyB, lyC, lyD, lyE, lyF]
      refine J_done (by kernel_rfl) (OnlyOn.normal ?_)
      have hm9 := hid (((hm6.out.ext x9.out).mono (fun q e => (Or.inr e : M1.τ q = .chm ∨ M1.τ q = .now ((i : Int) + 1)))).grown hg9 (fun g e => by injection e with e; rw [← e]; exact .inl (.inl H1.out.tc)))
      have hbl := fun (k : Nat) (hk : k < w6.heap.size) (hn : k ≠ M1.bm) => (hg9.block k (Nat.lt_of_lt_of_le hk x9.out.size) (fun e => by injection e with e; exact hn e)).trans (x9.out.block hk)
      have ho9 := ho6.out.keep (hbl _ ho6.out.lt.2 hne.out.2.2.2.1)
      have hn9 := hn6.out.keep (hbl _ hn6.out.lt.2 hne.out.2.2.2.2)
      have hs9' := hid (show w4.heap.size ≤ w9.heap.size from by rw [hs9]; exact Nat.le_trans hs6.out x9.out.size)
      have hres : Hid (AltTo w w9 lo b s p fs rs vb ra mode ((i : Int) + 1) ⟨q, (rth vb i).v⟩ i M) := alt_ok H1.out hi hmap ho9 hn9 hτ.out hτo.out hτn.out (fun q hq => ⟨(hbd.out q hq).1, Nat.lt_of_lt_of_le (hbd.out q hq).2 hs9'.out⟩) hm9.out m1.out hfM.out hτF.out hm.out
      clear H1 hm9 hbl ho9 hn9 hg9 hup hmap hs9 hcm6 hb6 hm6 kc6
      go_wp2
      go_ret
      exact ⟨rfl, hres.out⟩
    · replace hek := hid (show ∀ e ∈ M1.ch, e.1 ≠ (i : Int) + 1 from fun e he h => hek ⟨e, he, h⟩)
      have hvr := hid (H1.out.un i hi hek.out)
      have hcp := hid (fun w' (hx : Ext w1 w') => copied_any (rth rs i).gone (rrth M1.t.rr i).A fs.length (rrth M1.t.rr i).c (rth rs i).v w' (by have h := (hv.out.ext hx).rd.2; rw [hv.out.2.1] at h; exact h) (by omega))
      have hm3 := hid hv.out.2.2.1
      have xd := (Ext.refl w1).drew_right
      refine region_J (fun w' => Ext w1 w') 15 (by kernel_rfl) ?_
      generalize w1.drew = dd at xd ⊢
      refine JR 0 (v := ?vd1) rfl (by kernel_rfl) rfl ?yd1 xd ?rd1
      case yd1 => (intro w hw; (go_simp; with_reducible rfl))
      simp only [Act.put, lyA, lyB, lyC, lyD, lyE, lyF]
      refine JR 1 (v := ?vd2) rfl (by kernel_rfl) rfl ?yd2 xd ?rd2
      case yd2 => (intro w hw; (go_simp; with_reducible rfl))
      simp only [Act.put, lyA, lyB, lyC, lyD, lyE, lyF]
      refine JR 2 (v := ?vd3) rfl (by kernel_rfl) rfl ?yd3 xd ?rd3
      case yd3 => (intro w hw; (go_simp; with_reducible rfl))
      simp only [Act.put, lyA, lyB, lyC, lyD, lyE, lyF]
      refine JR 3 (v := ?vd4) rfl (by kernel_rfl) rfl ?yd4 xd ?rd4
      case yd4 => (intro w hw; obtain ⟨a0, a2, a3, a4, a5, a6, a7, a8, a21⟩ := (H1.out.ext hw).c; (go_simp; with_reducible rfl))
      simp only [Act.put, lyA, lyB, lyC, lyD, lyE, lyF]
      refine JR 4 (v := ?vd5) rfl (by kernel_rfl) rfl ?yd5 xd ?rd5
      case yd5 => (intro w hw; (go_simp; with_reducible rfl))
      simp only [Act.put, lyA, lyB, lyC, lyD, lyE, lyF]
      refine JR 5 (v := ?vd6) rfl (by kernel_rfl) rfl ?yd6 xd ?rd6
      case yd6 => (intro w hw; (go_simp; with_reducible rfl))
      simp only [Act.put, lyA, lyB, lyC, lyD, lyE, lyF]
      refine JR 6 (v := ?vd7) rfl (by kernel_rfl) rfl ?yd7 xd ?rd7
      case yd7 => (intro w hw; (go_simp; with_reducible rfl))
      simp only [Act.put, lyA, lyB, lyC, lyD, lyE, lyF]
      refine JR 7 (v := ?vd8) rfl (by kernel_rfl) rfl ?yd8 xd ?rd8
      case yd8 => (intro w hw; obtain ⟨a0, a2, a3, a4, a5, a6, a7, a8, a21⟩ := (H1.out.ext hw).c; (go_simp; with_reducible rfl))
      simp only [Act.put, lyA, lyB, lyC, lyD, lyE, lyF]
      refine JR 8 (v := ?vd9) rfl (by kernel_rfl) rfl ?yd9 xd ?rd9
      case yd9 => (intro w hw; obtain ⟨a0, a2, a3, a4, a5, a6, a7, a8, a21⟩ := (H1.out.ext hw).c; have hlk := look88_no (H1.out.ext hw).cm hek.out true; rw [if_pos rfl] at hlk; unfold chZ at hlk; (go_simp; with_reducible rfl))
      simp only [Act.put, lyA, lyB, lyC, lyD, lyE, lyF]
      refine JR 9 (v := ?vd10) rfl (by kernel_rfl) rfl ?yd10 xd ?rd10
      case yd10 => (intro w hw; (go_simp; with_reducible rfl))
      simp only [Act.put, lyA, lyB, lyC, lyD, lyE, lyF]
      refine JR 10 (v := ?vd11) rfl (by kernel_rfl) rfl ?yd11 xd ?rd11
      case yd11 => (intro w hw; (go_simp; with_reducible rfl))
      simp only [Act.put, lyA, lyB, lyC, lyD, lyE, lyF]
      refine JR 11 (v := ?vd12) rfl (by kernel_rfl) rfl ?yd12 xd ?rd12
      case yd12 => (intro w hw; (go_simp; with_reducible rfl))
      simp only [Act.put, lyA, lyB, lyC, lyD, lyE, lyF]
      refine J_one 12 rfl (by kernel_rfl) (fun K hK => ?_)
      go_simp
      obtain ⟨wd13, bd13, ed13, gd13, hd13, cd13, hxd13, ld13⟩ := alloc_at dd [.bool false, .slice none 0 0, .bool false, .slice none 0 0] 156
      simp only [ed13, gd13]
      have zd13 : w1.heap.size ≤ bd13 := by rw [← gd13]; exact (xd).size
      have yd13 : dd.heap.size ≤ bd13 := by rw [← gd13]; exact Nat.le_refl _
      clear ed13 gd13 cd13
      refine hK _ _ ⟨fun _ => ((xd).trans hxd13), ?_⟩
      clear hK K
      try simp only [Act.put, lyA, lyB, lyC, lyD, lyE, lyF]
      have xd13 := ((xd).trans hxd13)
      refine J_one 13 rfl (by kernel_rfl) (fun K hK => ?_)
      refine step_store0 rfl 156 _ _ rfl bd13 [.bool false, .slice none 0 0, .bool false, .slice none 0 0] rfl rfl hd13 (by kernel_rfl) (by first | rfl | simp [Value.oneCell']) ?_
      obtain ⟨wd14, ed14, hd14, cd14, hxd14, -, hkd14⟩ := store_at (u := w1) [.bool false, .slice none 0 0, .bool false, .slice none 0 0] hd13 (xd13) zd13
      rw [ed14]
      clear ed14
      refine hK _ _ ⟨fun _ => hxd14, ?_⟩
      clear hK K
      try simp only [Act.put, lyA, lyB, lyC, lyD, lyE, lyF]
      refine JR 14 (v := ?vd15) rfl (by kernel_rfl) rfl ?yd15 hxd14 ?rd15
      case yd15 => (intro w hw; (go_simp; with_reducible rfl))
      simp only [Act.put, lyA, lyB, lyC, lyD, lyE, lyF]
      refine J_done (by kernel_rfl) (OnlyOn.normal ?_)
      have x3 := hid (hxd14)
      have kh := hid hd14
      have kz := hid zd13
      generalize wd14 = w3 at *
      generalize bd13 = gc at *
      go_upto_region 6 with fail
      have xc := (Ext.refl w3).drew_right
      refine region_J (fun w' => Ext w3 w') 27 (by kernel_rfl) ?_
      generalize w3.drew = dc at xc ⊢
      have hG := kh.out.ext xc
      refine JW 0 (v := ?vc1) rfl (by kernel_rfl) rfl ?yc1 xc ?rc1
      case yc1 => (intro w hw; (go_simp; with_reducible rfl))
      simp only [Act.put, lyA, lyB, lyC, lyD, lyE, lyF]
      refine JW 1 (v := ?vc2) rfl (by kernel_rfl) rfl ?yc2 xc ?rc2
      case yc2 => (intro w hw; (go_simp; with_reducible rfl))
      simp only [Act.put, lyA, lyB, lyC, lyD, lyE, lyF]
      refine JW 2 (v := ?vc3) rfl (by kernel_rfl) rfl ?yc3 xc ?rc3
      case yc3 => (intro w hw; (go_simp; with_reducible rfl))
      simp only [Act.put, lyA, lyB, lyC, lyD, lyE, lyF]
      refine JW 3 (v := ?vc4) rfl (by kernel_rfl) rfl ?yc4 xc ?rc4
      case yc4 => (intro w hw; (go_simp; with_reducible rfl))
      simp only [Act.put, lyA, lyB, lyC, lyD, lyE, lyF]
      refine JW 4 (v := ?vc5) rfl (by kernel_rfl) rfl ?yc5 xc ?rc5
      case yc5 => (intro w hw; obtain ⟨a0, a2, a3, a4, a5, a6, a7, a8, a21⟩ := (H1.out.ext (x3.out.trans hw)).c; obtain ⟨g', e', -, -, r0, r1, -⟩ := (H1.out.ext (x3.out.trans hw)).ow.at_ hi; rw [eB] at e' a4; injection e' with e'; injection e' with e'; subst e'; (go_simp; with_reducible rfl))
      simp only [Act.put, lyA, lyB, lyC, lyD, lyE, lyF]
      refine JW 5 (v := ?vc6) rfl (by kernel_rfl) rfl ?yc6 xc ?rc6
      case yc6 => (intro w hw; (go_simp; with_reducible rfl))
      simp only [Act.put, lyA, lyB, lyC, lyD, lyE, lyF]
      refine JW 6 (v := ?vc7) rfl (by kernel_rfl) rfl ?yc7 xc ?rc7
      case yc7 => (intro w hw; (go_simp; with_reducible rfl))
      simp only [Act.put, lyA, lyB, lyC, lyD, lyE, lyF]
      refine JW 7 (v := ?vc8) rfl (by kernel_rfl) rfl ?yc8 xc ?rc8
      case yc8 => (intro w hw; (go_simp; with_reducible rfl))
      simp only [Act.put, lyA, lyB, lyC, lyD, lyE, lyF]
      refine JW 8 (v := ?vc9) rfl (by kernel_rfl) rfl ?yc9 xc ?rc9
      case yc9 => (intro w hw; obtain ⟨a0, a2, a3, a4, a5, a6, a7, a8, a21⟩ := (H1.out.ext (x3.out.trans hw)).c; obtain ⟨g', e', -, -, r0, r1, -⟩ := (H1.out.ext (x3.out.trans hw)).ow.at_ hi; rw [eB] at e' a4; injection e' with e'; injection e' with e'; subst e'; (go_simp; with_reducible rfl))
      simp only [Act.put, lyA, lyB, lyC, lyD, lyE, lyF]
      refine JW 9 (v := ?vc10) rfl (by kernel_rfl) rfl ?yc10 xc ?rc10
      case yc10 => (intro w hw; (go_simp; with_reducible rfl))
      simp only [Act.put, lyA, lyB, lyC, lyD, lyE, lyF]
      refine JW 10 (v := ?vc11) rfl (by kernel_rfl) rfl ?yc11 xc ?rc11
      case yc11 => (intro w hw; (go_simp; with_reducible rfl))
      simp only [Act.put, lyA, lyB, lyC, lyD, lyE, lyF]
      refine JW 11 (v := ?vc12) rfl (by kernel_rfl) rfl ?yc12 xc ?rc12
      case yc12 => (intro w hw; obtain ⟨a0, a2, a3, a4, a5, a6, a7, a8, a21⟩ := (H1.out.ext (x3.out.trans hw)).c; obtain ⟨g', e', -, -, r0, r1, -⟩ := (H1.out.ext (x3.out.trans hw)).ow.at_ hi; rw [eB] at e' a4; injection e' with e'; injection e' with e'; subst e'; (go_simp; with_reducible rfl))
      simp only [Act.put, lyA, lyB, lyC, lyD, lyE, lyF]
      refine JW 13 (v := ?vc13) rfl (by kernel_rfl) rfl ?yc13 xc ?rc13
      case yc13 => (intro w hw; (go_simp; with_reducible rfl))
      simp only [Act.put, lyA, lyB, lyC, lyD, lyE, lyF]
      refine JW 14 (v := ?vc14) rfl (by kernel_rfl) rfl ?yc14 xc ?rc14
      case yc14 => (intro w hw; (go_simp; with_reducible rfl))
      simp only [Act.put, lyA, lyB, lyC, lyD, lyE, lyF]
      refine JW 15 (v := ?vc15) rfl (by kernel_rfl) rfl ?yc15 xc ?rc15
      case yc15 => (intro w hw; (go_simp; with_reducible rfl))
      simp only [Act.put, lyA, lyB, lyC, lyD, lyE, lyF]
      refine JW 16 (v := ?vc16) rfl (by kernel_rfl) rfl ?yc16 xc ?rc16
      case yc16 => (intro w hw; (go_simp; with_reducible rfl))
      simp only [Act.put, lyA, lyB, lyC, lyD, lyE, lyF]
      refine JW 17 (v := ?vc17) rfl (by kernel_rfl) rfl ?yc17 xc ?rc17
      case yc17 => (intro w hw; obtain ⟨a0, a2, a3, a4, a5, a6, a7, a8, a21⟩ := (H1.out.ext (x3.out.trans hw)).c; obtain ⟨g', e', -, -, r0, r1, -⟩ := (H1.out.ext (x3.out.trans hw)).ow.at_ hi; rw [eB] at e' a4; injection e' with e'; injection e' with e'; subst e'; (go_simp; with_reducible rfl))
      simp only [Act.put, lyA, lyB, lyC, lyD, lyE, lyF]
      refine JW 18 (v := ?vc18) rfl (by kernel_rfl) rfl ?yc18 xc ?rc18
      case yc18 => (intro w hw; (go_simp; with_reducible rfl))
      simp only [Act.put, lyA, lyB, lyC, lyD, lyE, lyF]
      refine JW 19 (v := ?vc19) rfl (by kernel_rfl) rfl ?yc19 xc ?rc19
      case yc19 => (intro w hw; (go_simp; with_reducible rfl))
      simp only [Act.put, lyA, lyB, lyC, lyD, lyE, lyF]
      refine JW 20 (v := ?vc20) rfl (by kernel_rfl) rfl ?yc20 xc ?rc20
      case yc20 => (intro w hw; (go_simp; with_reducible rfl))
      simp only [Act.put, lyA, lyB, lyC, lyD, lyE, lyF]
      refine JW 21 (v := ?vc21) rfl (by kernel_rfl) rfl ?yc21 xc ?rc21
      case yc21 => (intro w hw; obtain ⟨a0, a2, a3, a4, a5, a6, a7, a8, a21⟩ := (H1.out.ext (x3.out.trans hw)).c; obtain ⟨g', e', -, -, r0, r1, -⟩ := (H1.out.ext (x3.out.trans hw)).ow.at_ hi; rw [eB] at e' a4; injection e' with e'; injection e' with e'; subst e'; (go_simp; with_reducible rfl))
      simp only [Act.put, lyA, lyB, lyC, lyD, lyE, lyF]
      refine JW 22 (v := ?vc22) rfl (by kernel_rfl) rfl ?yc22 xc ?rc22
      case yc22 => (intro w hw; (go_simp; with_reducible rfl))
      simp only [Act.put, lyA, lyB, lyC, lyD, lyE, lyF]
      refine JW 23 (v := ?vc23) rfl (by kernel_rfl) rfl ?yc23 xc ?rc23
      case yc23 => (intro w hw; (go_simp; with_reducible rfl))
      simp only [Act.put, lyA, lyB, lyC, lyD, lyE, lyF]
      refine JW 24 (v := ?vc24) rfl (by kernel_rfl) rfl ?yc24 xc ?rc24
      case yc24 => (intro w hw; obtain ⟨a0, a2, a3, a4, a5, a6, a7, a8, a21⟩ := (H1.out.ext (x3.out.trans hw)).c; obtain ⟨g', e', -, -, r0, r1, -⟩ := (H1.out.ext (x3.out.trans hw)).ow.at_ hi; rw [eB] at e' a4; injection e' with e'; injection e' with e'; subst e'; (go_simp; with_reducible rfl))
      simp only [Act.put, lyA, lyB, lyC, lyD, lyE, lyF]
      refine J_one 12 rfl (by kernel_rfl) (fun K hK => ?_)
      go_simp
      refine (hcp.out _ (x3.out.trans xc)).mono ?_
      rintro e9 wc25 ⟨B1, d1, rfl, ob1, hxc25⟩
      obtain ⟨g1, eB1, ga1, gb1⟩ := own_blk ob1 (by omega)
      subst eB1
      have gw1 := hid (show w1.heap.size ≤ g1 from Nat.le_trans (x3.out.trans xc).size ga1)
      have gc1 := hid (show gc < g1 from Nat.lt_of_lt_of_le hG.lt ga1)
      have hO1 : OwV wc25 lo fs.length ⟨(rth rs i).gone, some ⟨g1, 0, none⟩, fs.length, d1⟩ (rth rs i) := ⟨rfl, rfl, hm3.out, g1, rfl, own_baseK ob1 (by have := (x3.out.trans xc).size; have := H1.out.bk.lt; have := (H1.out.bd b (by rw [H1.out.td]; simp)).1; omega)⟩
      refine hK _ _ ⟨fun _ => ((xc).trans hxc25), ?_⟩
      clear hK K
      try simp only [Act.put, lyA, lyB, lyC, lyD, lyE, lyF]
      replace hG := hG.ext hxc25
      have xc25 := ((xc).trans hxc25)
      refine J_one 25 rfl (by kernel_rfl) (fun K hK => ?_)
      go_simp
      refine (hcp.out _ (x3.out.trans xc25)).mono ?_
      rintro e9 wc26 ⟨B2, d2, rfl, ob2, hxc26⟩
      obtain ⟨g2, eB2, ga2, gb2⟩ := own_blk ob2 (by omega)
      subst eB2
      have gw2 := hid (show w1.heap.size ≤ g2 from Nat.le_trans (x3.out.trans xc25).size ga2)
      have gc2 := hid (show gc < g2 from Nat.lt_of_lt_of_le hG.lt ga2)
      have g12' := hid (show g1 < g2 from Nat.lt_of_lt_of_le hO1.lt.2 ga2)
      have hO2 : OwV wc26 lo fs.length ⟨(rth rs i).gone, some ⟨g2, 0, none⟩, fs.length, d2⟩ (rth rs i) := ⟨rfl, rfl, hm3.out, g2, rfl, own_baseK ob2 (by have := (x3.out.trans xc25).size; have := H1.out.bk.lt; have := (H1.out.bd b (by rw [H1.out.td]; simp)).1; omega)⟩
      refine hK _ _ ⟨fun _ => ((xc25).trans hxc26), ?_⟩
      clear hK K
      try simp only [Act.put, lyA, lyB, lyC, lyD, lyE, lyF]
      replace hG := hG.ext hxc26
      replace hO1 := hO1.ext hxc26
      have xc26 := ((xc25).trans hxc26)
      refine JW 26 (v := ?vc27) rfl (by kernel_rfl) rfl ?yc27 xc26 ?rc27
      case yc27 => (intro w hw; (go_simp; with_reducible rfl))
      simp only [Act.put, lyA, lyB, lyC, lyD, lyE, lyF]
      refine J_one 27 rfl (by kernel_rfl) (fun K hK => ?_)
      refine step_store0 rfl 156 _ _ rfl gc [.bool (rth rs i).gone, .slice (some ⟨g1, 0, none⟩) fs.length d1, .bool (rth rs i).gone, .slice (some ⟨g2, 0, none⟩) fs.length d2] rfl rfl hG (by kernel_rfl) (by first | rfl | simp [Value.oneCell']) ?_
      obtain ⟨wc28, ec28, hc28, cc28, hxc28, -, hkc28⟩ := store_at (u := w1) [.bool (rth rs i).gone, .slice (some ⟨g1, 0, none⟩) fs.length d1, .bool (rth rs i).gone, .slice (some ⟨g2, 0, none⟩) fs.length d2] hG ((x3.out.trans xc26)) kz.out
      rw [ec28]
      clear ec28
      refine hK _ _ ⟨fun h => absurd rfl h, ?_⟩
      clear hK K
      try simp only [Act.put, lyA, lyB, lyC, lyD, lyE, lyF]
      refine J_done (by kernel_rfl) (OnlyOn.normal ?_)
      have hk := hkc28
      have x4 := hid (hxc28)
      have kc := hid (HB.bk (xs := [.bool (rth rs i).gone, .slice (some ⟨g1, 0, none⟩) fs.length d1, .bool (rth rs i).gone, .slice (some ⟨g2, 0, none⟩) fs.length d2]) hc28 cc28)
      have hvo := hid (hO1.keep (hk g1 (by have := gc1.out; omega)))
      have hvn := hid (hO2.keep (hk g2 (by have := gc2.out; omega)))
      rw [← hvr.out] at hvn
      generalize wc28 = w4 at *
      clear hO1 hO2 hk
      obtain ⟨o, eo⟩ : ∃ o : Rr, o = ⟨(rth rs i).gone, some ⟨g1, 0, none⟩, fs.length, d1⟩ := ⟨_, rfl⟩
      obtain ⟨n, en⟩ : ∃ n : Rr, n = ⟨(rth vb i).gone, some ⟨g2, 0, none⟩, fs.length, d2⟩ := ⟨_, rfl⟩
      have ro : rb o = g1 := by rw [eo]; rfl
      have rn : rb n = g2 := by rw [en]; rfl
      have hne := hid (show gc ≠ rb o ∧ gc ≠ rb n ∧ rb o ≠ rb n ∧ rb o ≠ M1.bm ∧ rb n ≠ M1.bm from by
        have h1 := gc1.out
        have h2 := gc2.out
        have h3 := g12'.out
        have h4 := gw1.out
        have h5 := gw2.out
        have h6 := H1.out.cm.lt
        rw [ro, rn]
        exact ⟨by omega, by omega, by omega, by omega, by omega⟩)
      have hgN := hid (show M1.τ (rb n) = .now ((i : Int) + 1) ∨ w1.heap.size ≤ rb n from .inr (by rw [rn]; exact gw2.out))
      obtain ⟨τ', hτ, hτo, hτn, hbd, hτF⟩ : ∃ τ' : Nat → Tg, Hid (∀ q, M1.τ q ≠ .no → τ' q = M1.τ q) ∧ Hid (τ' (rb o) = .old ((i : Int) + 1)) ∧ Hid (τ' (rb n) = .now ((i : Int) + 1)) ∧ Hid (∀ q, τ' q ≠ .no → lo ≤ q ∧ q < w4.heap.size) ∧ Hid (∀ q, τ' q ≠ .no → M1.τ q ≠ .no ∨ w.heap.size ≤ q) := by
        have h3 := g12'.out
        have h4 := gw1.out
        have h5 := gw2.out
        have h6 := hvo.out.lt
        have h7 := hvn.out.lt
        have h8 := hws.out
        refine ⟨fun q => if q = g1 then .old ((i : Int) + 1) else if q = g2 then .now ((i : Int) + 1) else M1.τ q, hid (fun q hq => ?_), hid (by rw [ro]; exact if_pos rfl), hid (by rw [rn]; show (if g2 = g1 then Tg.old ((i : Int) + 1) else if g2 = g2 then Tg.now ((i : Int) + 1) else M1.τ g2) = _; rw [if_neg (by omega), if_pos rfl]), hid (fun q hq => ?_), hid (fun q hq => ?_)⟩
        · have := (H1.out.bd q hq).2
          simp only
          rw [if_neg (by omega), if_neg (by omega)]
        · simp only at hq
          by_cases a1 : q = g1
          · subst a1; exact h6
          by_cases a2 : q = g2
          · subst a2; exact h7
          rw [if_neg a1, if_neg a2] at hq
          exact ⟨(H1.out.bd q hq).1, Nat.lt_of_lt_of_le (H1.out.bd q hq).2 x4.out.size⟩
        · simp only at hq
          by_cases a1 : q = g1
          · right; omega
          by_cases a2 : q = g2
          · right; omega
          rw [if_neg a1, if_neg a2] at hq
          exact .inl hq
      replace hvo := hid (show OwV w4 lo fs.length o (rth rs i) from by rw [eo]; exact hvo.out)
      replace hvn := hid (show OwV w4 lo fs.length n (rth vb i) from by rw [en]; rw [hvr.out] at hvn ⊢; exact hvn.out)
      replace kc := hid (show Bk w4 gc [.bool o.g, .slice o.A o.n o.c, .bool n.g, .slice n.A n.n n.c] 156 from by rw [eo, en, hvr.out]; exact kc.out)
      clear eo en ro rn gc1 gc2 g12' gw1 gw2 hek hcp hm3 x3 kh
      obtain ⟨n1, n2, n3, gN, nA, nrow⟩ := hvn.out
      have hrb := hid (show rb n = gN from by unfold rb; rw [nA]; rfl)
      have hcl := hid (cl87_any gc 2 g5 q n.g w4 (kc.out.at rfl) (kc.out.free 2) (k5.out.ext x4.out))
      clear n1 n2 n3 nA nrow
      go_wp2_with fail
      refine hcl.out.mono ?_
      rintro e9 w6 ⟨rfl, hw6⟩
      have ho6 := hid (show OwV w6 lo fs.length o (rth rs i) from by rw [hw6]; exact hvo.out.keep ((setCell_at w4 gc 2 _).2 _ (Ne.symm hne.out.1)))
      have hn6 := hid (show OwV w6 lo fs.length ⟨q, n.A, n.n, n.c⟩ ⟨q, (rth vb i).v⟩ from by
        have h := hvn.out.keep (w' := w6) (by rw [hw6]; exact (setCell_at w4 gc 2 _).2 _ (Ne.symm hne.out.2.1))
        exact ⟨rfl, h.2.1, h.2.2.1, h.2.2.2⟩)
      have kc6 := hid (show Bk w6 gc [.bool o.g, .slice o.A o.n o.c, .bool q, .slice n.A n.n n.c] 156 from by rw [hw6]; exact kc.out.set 2 (.bool q))
      have hm6 := hid (show Mv w1 w6 (fun q => M1.τ q = .now ((i : Int) + 1)) from by rw [hw6]; exact (Mv.of x4.out).set (.inr kz.out) _ _)
      have hs6 := hid (show w4.heap.size ≤ w6.heap.size from by rw [hw6, (setCell_at _ _ _ _).1]; exact Nat.le_refl _)
      clear hw6
      have hb6 := hid (H1.out.bk.keep (hm6.out.at H1.out.bk.lt (fun e => by rw [H1.out.td] at e; cases e)))
      have hcm6 := hid (H1.out.cm.keep (hm6.out.at H1.out.cm.lt (fun e => by rw [H1.out.tc] at e; cases e)))
      clear hcl kc hvo hvn
      go_upto_region 8 with fail
      have xk := (Ext.refl w6).drew_right
      refine region_J (fun w' => Ext w6 w') 9 (by kernel_rfl) ?_
      generalize w6.drew = dk at xk ⊢
      refine JW 0 (v := ?vk1) rfl (by kernel_rfl) rfl ?yk1 xk ?rk1
      case yk1 => (intro w hw; (go_simp; with_reducible rfl))
      simp only [Act.put, lyA, lyB, lyC, lyD, lyE, lyF]
      refine JW 1 (v := ?vk2) rfl (by kernel_rfl) rfl ?yk2 xk ?rk2
      case yk2 => (intro w hw; (go_simp; with_reducible rfl))
      simp only [Act.put, lyA, lyB, lyC, lyD, lyE, lyF]
      refine JW 2 (v := ?vk3) rfl (by kernel_rfl) rfl ?yk3 xk ?rk3
      case yk3 => (intro w hw; (go_simp; with_reducible rfl))
      simp only [Act.put, lyA, lyB, lyC, lyD, lyE, lyF]
      refine JW 3 (v := ?vk4) rfl (by kernel_rfl) rfl ?yk4 xk ?rk4
      case yk4 => (intro w hw; obtain ⟨q0, q1, q2, q3⟩ := (kc6.out.ext hw).c4; have hb := hb6.out.ext hw; have a7 : w.cell? ⟨b, 7, none⟩ = some (.map (some M1.bm)) := hb.at rfl; have a6 : w.cell? ⟨b, 6, none⟩ = some (.int .i64 ((i : Int) + 1)) := hb.at rfl; (go_simp; with_reducible rfl))
      simp only [Act.put, lyA, lyB, lyC, lyD, lyE, lyF]
      refine JW 4 (v := ?vk5) rfl (by kernel_rfl) rfl ?yk5 xk ?rk5
      case yk5 => (intro w hw; (go_simp; with_reducible rfl))
      simp only [Act.put, lyA, lyB, lyC, lyD, lyE, lyF]
      refine JW 5 (v := ?vk6) rfl (by kernel_rfl) rfl ?yk6 xk ?rk6
      case yk6 => (intro w hw; (go_simp; with_reducible rfl))
      simp only [Act.put, lyA, lyB, lyC, lyD, lyE, lyF]
      refine JW 6 (v := ?vk7) rfl (by kernel_rfl) rfl ?yk7 xk ?rk7
      case yk7 => (intro w hw; (go_simp; with_reducible rfl))
      simp only [Act.put, lyA, lyB, lyC, lyD, lyE, lyF]
      refine JW 7 (v := ?vk8) rfl (by kernel_rfl) rfl ?yk8 xk ?rk8
      case yk8 => (intro w hw; obtain ⟨q0, q1, q2, q3⟩ := (kc6.out.ext hw).c4; have hb := hb6.out.ext hw; have a7 : w.cell? ⟨b, 7, none⟩ = some (.map (some M1.bm)) := hb.at rfl; have a6 : w.cell? ⟨b, 6, none⟩ = some (.int .i64 ((i : Int) + 1)) := hb.at rfl; (go_simp; with_reducible rfl))
      simp only [Act.put, lyA, lyB, lyC, lyD, lyE, lyF]
      refine JW 8 (v := ?vk9) rfl (by kernel_rfl) rfl ?yk9 xk ?rk9
      case yk9 => (intro w hw; obtain ⟨q0, q1, q2, q3⟩ := (kc6.out.ext hw).c4; have hb := hb6.out.ext hw; have a7 : w.cell? ⟨b, 7, none⟩ = some (.map (some M1.bm)) := hb.at rfl; have a6 : w.cell? ⟨b, 6, none⟩ = some (.int .i64 ((i : Int) + 1)) := hb.at rfl; (go_simp; with_reducible rfl))
      simp only [Act.put, lyA, lyB, lyC, lyD, lyE, lyF]
      refine J_one 9 rfl (by kernel_rfl) (fun K hK => ?_)
      obtain ⟨w9, hup, hmap, hg9, hs9⟩ := (hcm6.out.ext xk).store (t := 88) Tryz.underlying88 ((i : Int) + 1) (chV o ⟨q, n.A, n.n, n.c⟩)
      unfold chV at hup
      change Sem.run _ (Instr.mapUpdate _ _ (.int .i64 ((i : Int) + 1)) _) _ = _ at hup
      have x9 := hid (xk)
      go_simp
      refine hK _ _ ⟨fun h => absurd rfl h, ?_⟩
      clear hK K
      try simp only [Act.put, lyA, lyB, lyC, lyD, lyE, lyF]
      refine J_done (by kernel_rfl) (OnlyOn.normal ?_)
      have hm9 := hid (((hm6.out.ext x9.out).mono (fun q e => (Or.inr e : M1.τ q = .chm ∨ M1.τ q = .now ((i : Int) + 1)))).grown hg9 (fun g e => by injection e with e; rw [← e]; exact .inl (.inl H1.out.tc)))
      have hbl := fun (k : Nat) (hk : k < w6.heap.size) (hn : k ≠ M1.bm) => (hg9.block k (Nat.lt_of_lt_of_le hk x9.out.size) (fun e => by injection e with e; exact hn e)).trans (x9.out.block hk)
      have ho9 := ho6.out.keep (hbl _ ho6.out.lt.2 hne.out.2.2.2.1)
      have hn9 := hn6.out.keep (hbl _ hn6.out.lt.2 hne.out.2.2.2.2)
      have hs9' := hid (show w4.heap.size ≤ w9.heap.size from by rw [hs9]; exact Nat.le_trans hs6.out x9.out.size)
      have hres : Hid (AltTo w w9 lo b s p fs rs vb ra mode ((i : Int) + 1) ⟨q, (rth vb i).v⟩ i M) := alt_ok H1.out hi hmap ho9 hn9 hτ.out hτo.out hτn.out (fun q hq => ⟨(hbd.out q hq).1, Nat.lt_of_lt_of_le (hbd.out q hq).2 hs9'.out⟩) hm9.out m1.out hfM.out hτF.out hm.out
      clear H1 hm9 hbl ho9 hn9 hg9 hup hmap hs9 hcm6 hb6 hm6 kc6
      go_wp2
      go_ret
      exact ⟨rfl, hres.out⟩
end
end Go.Proofs.YtngoebbmgpdeiaaGreatDoor
