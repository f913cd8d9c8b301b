/-
  Taking an entry out of a node; Taking an entry out of an index; last: the last entry is taken out of a node.
-/
import Derived.Test.YtpijfiaecicpfaaGreatQ14
import Derived.Test.YtpijfiaecicpfaaGreatQ4
set_option maxRecDepth 100000
set_option maxHeartbeats 40000000
set_option linter.unusedVariables false
set_option linter.unusedSimpArgs false
namespace Go.Proofs.YtpijfiaecicpfaaGreat
open Go.RowKit Go.Shelf
theorem Turned.seq {W0 W1 W2 : World} {h p : Nat} {f f1 : Nat → Nat} {T' : BT} (hle : ∀ a, a < W0.heap.size → f1 a ≤ f a) (hF : FR f W0 W1) (ht : Turned W1 W2 h p f1 T') : Turned W0 W2 h p f T' := by
  obtain ⟨f', t1, t2, t3, t4⟩ := ht
  have hsz := hF.2.2.2.1
  exact ⟨f', t1, t2, fun a ha => Nat.le_trans (t3 a (Nat.lt_of_lt_of_le ha hsz)) (hle a ha), hF.trans t4 (fun k hk h0 => by have := hle k hk; omega)⟩
theorem Turned.ret2 {w W0 W : World} {h p b : Nat} {f : Nat → Nat} {T' : BT} (hx : Ext w W0) (ht : Turned W0 W h p f T') (hb : w.heap.size ≤ b) (hb2 : b < W0.heap.size) (h0 : f b = 0) (u v : Value) : Turned w ((W.setCell ⟨b, 0, none⟩ u).setCell ⟨b, 1, none⟩ v) h p f T' := by
  obtain ⟨f', t1, t2, t3, t4⟩ := ht
  have hb0 : f' b = 0 := by have := t3 b hb2; omega
  have hsz := hx.size
  refine ⟨f', (t1.setc hb0).setc hb0, t2, fun a ha => t3 a (Nat.lt_of_lt_of_le ha hsz), ?_⟩
  have h1 : FR f w W := (FR.of_ext (f := f) hx).trans t4 (fun _ _ h => h)
  have hz : ∀ k, k < w.heap.size → f k = 0 → one1 b k = 0 := fun k hk _ => if_neg (by omega)
  exact (h1.trans fr_set hz).trans fr_set hz
theorem leaf_cut {w W : World} {p m : Nat} {l : List Te} {A : Option Addr} {c : Nat} {kv : Value} {f : Nat → Nat} (hx : Ext w W) (e1 : W.heap[p]? = some (.cells #[.slice A l.length c, kv] 55 (0, 0))) (e2 : W.ownsRow 0 83 2 (.slice A l.length c) l.length (tents l)) (e3 : W.ownsRow 0 51 1 kv 0 (ptrs [])) (e4 : ∀ a, f a = one1 p a + ob (.slice A l.length c) a + ob kv a) (hn : ∀ a, f a ≤ 1) (hm : m ≤ l.length) :
    Turned w (W.setCell ⟨p, 0, none⟩ (.slice A m c)) 0 p f (.nd (l.take m) []) := by
  have o1 := own_cut e2 hm
  rw [tents_take] at o1
  exact leaf_put (l' := l.take m) hx e1 e2 e3 e4 hn ⟨World.grownBy.refl _ _, .inl (own_same (n := l.length) rfl)⟩ (by rw [List.length_take, Nat.min_eq_left hm]; exact o1)
theorem kid_shut {w' : World} {h p q i : Nat} {l : List Te} {ks : List BT} {ps : List Nat} {lv kv : Value} {g0 g1' g2 : Nat → Nat} {K' : BT} (t1 : TN w' h q K' g1') (t2 : w'.heap[p]? = some (.cells #[lv, kv] 55 (0, 0))) (t3 : w'.ownsRow 0 83 2 lv l.length (tents l)) (t4 : w'.ownsRow 0 51 1 kv ps.length (ptrs ps)) (t5 : Ks (TN w' h) (ps.take i) (ks.take i) g0) (t6 : Ks (TN w' h) (ps.drop (i + 1)) (ks.drop (i + 1)) g2) (hpi : ps[i]? = some q) (hi : i < ks.length) :
    TN w' (h + 1) p (.nd l (ks.set i K')) (fun a => one1 p a + ob lv a + ob kv a + (g0 a + g1' a + g2 a)) := by
  refine TN.shut t2 t3 t4 (show Kd w' (h + 1) ps (ks.set i K') (fun a => g0 a + g1' a + g2 a) from ?_) (fun _ => rfl)
  have hks := set_cut (l := ks) (i := i) hi K'
  have hps : ps = ps.take i ++ q :: ps.drop (i + 1) := by
    have := list_cut (l := ps) (i := i) (List.getElem?_eq_some_iff.1 hpi).1
    rw [(List.getElem?_eq_some_iff.1 hpi).2] at this
    exact this
  rw [hks]
  have hm := Ks.mid t5 t1 t6
  rw [← hps] at hm
  exact hm
theorem last_any : ∀ (h p : Nat) (T : BT) (f : Nat → Nat) (w : World), TN w h p T f → (∀ a, f a ≤ 1) → Shp h T → 1 ≤ T.l.length → T.l.length ≤ 4 → ∀ (T' : BT) (x : Te), Hid ((T', x) = lastT h T) →
    Calls Tryz.prog 71 #[.pointer (some ⟨p, 0, none⟩)] w fun e w' => e = .returned (.agg #[.string x.key, .int .i64 x.no]) ∧ Turned w w' h p f T' := by
  intro h
  induction h with
  | zero =>
    intro p T f w hT hn hs h1 h4 T' x hx
    obtain ⟨l, ks⟩ := T
    have hfb : Hid (f w.heap.size = 0) := hT.bound _ (Nat.le_refl _)
    obtain ⟨rfl, lv, kv, e1, e2, e3, e4⟩ := hT
    obtain ⟨A, c, rfl, hr⟩ := own_rd e2
    obtain ⟨kA, kc, rfl, -⟩ := own_rd e3
    have hl1 : 1 ≤ l.length := h1
    have hl4 : l.length ≤ 4 := h4
    obtain ⟨m, hm⟩ : ∃ m, l.length = m + 1 := ⟨l.length - 1, by omega⟩
    have hmx := Rd.max hr
    have hx0 := hid ((Ext.refl w).alloc_right (.cells #[.string ⟨#[]⟩, .int .i64 0] 83))
    have ha := heap_alloc_new w (.cells #[.string ⟨#[]⟩, .int .i64 0] 83)
    obtain ⟨rfl, rfl⟩ : T' = .nd (l.take m) [] ∧ x = tth l m := by
      have := hx.out
      unfold lastT at this
      rw [hm, Nat.add_sub_cancel] at this
      exact ⟨congrArg Prod.fst this, congrArg Prod.snd this⟩
    obtain ⟨ad, rfl, z0, z1⟩ := RdN.at_ hr (show m < l.length by omega)
    have hE : Hid (∀ W : World, Ext (w.alloc (.cells #[.string ⟨#[]⟩, .int .i64 0] 83)) W → Turned (w.alloc (.cells #[.string ⟨#[]⟩, .int .i64 0] 83)) (W.setCell ⟨p, 0, none⟩ (.slice (some ad) m c)) 0 p f (.nd (l.take m) [])) := fun W hW =>
      leaf_cut hW ((hW.block (by have := (Array.getElem?_eq_some_iff.1 e1).1; simp; omega)).trans ((hx0.out.block (Array.getElem?_eq_some_iff.1 e1).1).trans e1)) (hW.own (hx0.out.own e2)) (hW.own (hx0.out.own e3)) e4 hn (by omega)
    replace z0 := hx0.out.cell z0
    replace z1 := hx0.out.cell z1
    have c0 := hx0.out.cell (node_c0 e1)
    have c1 := hx0.out.cell (node_c1 e1)
    have lp := (Array.getElem?_eq_some_iff.1 e1).1
    have lp0 := World.block_lt_of_cell? _ _ c0
    dsimp only at lp0
    have hw1 : IntKind.i64.wrap ((l.length : Int) - 1) = (m : Int) := by rw [IntWalk.i64_in _ (by omega)]; omega
    have hw2 : ((l.length : Int) - 1) = (m : Int) := by omega
    have hw3 : (m : Int) < (l.length : Int) := by omega
    have hw4 : m ≤ c := by omega
    have hx9 := hid (fun (v : Value) (h : v = v) => (Ext.refl (w.alloc (.cells #[.string ⟨#[]⟩, .int .i64 0] 83))).alloc_right (.cells #[.string (tth l m).key, .int .i64 (tth l m).no] 83))
    have hf0 : (w.alloc (.cells #[.string ⟨#[]⟩, .int .i64 0] 83)).frozen? ⟨p, 0, none⟩ = false := Lib.frozen_of_heap ((hx0.out.block lp).trans e1) 0
    replace hm := hid hm
    clear hr e1 e2 e3 hx hs
    go_enter Tryz.func71, Tryz.ntmps71
    go_upto_region 1 with fail
    obtain ⟨b, hb⟩ : ∃ b, b = w.heap.size := ⟨_, rfl⟩
    rw [← hb] at ha hfb
    simp only [← hb]
    have lb := (Array.getElem?_eq_some_iff.1 ha).1
    have hbw : Hid (w.heap.size ≤ b) := by unfold Hid; omega
    replace hb := hid hb
    generalize w.alloc (.cells #[.string ⟨#[]⟩, .int .i64 0] 83) = W0 at *
    go_upto_region 4 with fail
    obtain ⟨d, hd⟩ : ∃ d, d = W0.heap.size := ⟨_, rfl⟩
    simp only [← hd]
    have hxd := (Ext.refl W0).alloc_right (.cells #[.string (tth l m).key, .int .i64 (tth l m).no] 83)
    have had := heap_alloc_new W0 (.cells #[.string (tth l m).key, .int .i64 (tth l m).no] 83)
    rw [← hd] at had
    have hT1 := hE.out _ hxd
    replace c0 := hxd.cell c0
    have hf1 : (W0.alloc (.cells #[.string (tth l m).key, .int .i64 (tth l m).no] 83)).frozen? ⟨p, 0, none⟩ = false := (hxd.frozen lp0).trans hf0
    replace ha := (hxd.block lb).trans ha
    have lpd := World.block_lt_of_cell? _ _ c0
    dsimp only at lpd
    have hdp : p ≠ d := by omega
    have hdb : b ≠ d := by omega
    have hbp : p ≠ b := fun e => by have := hfb.out; rw [← e, e4 p, one_self] at this; omega
    replace hd := hid hd
    clear c1 z0 z1 hxd hE hx9
    generalize W0.alloc (.cells #[.string (tth l m).key, .int .i64 (tth l m).no] 83) = W1 at *
    have g0 := heap_set_other had hdp 0 (.slice (some ad) m c)
    have g1 := heap_set_other ha hbp 0 (.slice (some ad) m c)
    go_upto_region 5 with fail
    clear c0 hf1 had
    replace hT1 := hid hT1
    replace ha := hid ha
    generalize W1.setCell ⟨p, 0, none⟩ (.slice (some ad) m c) = W2 at *
    have y0 : W2.cell? ⟨d, 0, none⟩ = some (.string (tth l m).key) := by rw [Lib.cell_of_heap g0]; rfl
    have y1 : W2.cell? ⟨d, 1, none⟩ = some (.int .i64 (tth l m).no) := by rw [Lib.cell_of_heap g0]; rfl
    have x0 : W2.cell? ⟨b, 0, none⟩ = some (.string ⟨#[]⟩) := by rw [Lib.cell_of_heap g1]; rfl
    have x1 : (W2.setCell ⟨b, 0, none⟩ (.string (tth l m).key)).cell? ⟨b, 1, none⟩ = some (.int .i64 0) := set_keep (by rw [Lib.cell_of_heap g1]; rfl) (off_ne (by decide))
    have f0 := Lib.frozen_of_heap g1 0
    have f1 : (W2.setCell ⟨b, 0, none⟩ (.string (tth l m).key)).frozen? ⟨b, 1, none⟩ = false := (World.frozen?_setCell _ _ _ _).trans (Lib.frozen_of_heap g1 1)
    have q0 : ((W2.setCell ⟨b, 0, none⟩ (.string (tth l m).key)).setCell ⟨b, 1, none⟩ (.int .i64 (tth l m).no)).cell? ⟨b, 0, none⟩ = some (.string (tth l m).key) := set_keep (set_get x0) (off_ne (by decide))
    have q1 : ((W2.setCell ⟨b, 0, none⟩ (.string (tth l m).key)).setCell ⟨b, 1, none⟩ (.int .i64 (tth l m).no)).cell? ⟨b, 1, none⟩ = some (.int .i64 (tth l m).no) := set_get x1
    have hfin := hid (Turned.ret2 (b := b) hx0.out hT1.out hbw.out lb hfb.out (.string (tth l m).key) (.int .i64 (tth l m).no))
    clear g0 g1 hT1
    go_wp2
    clear x0 x1 f0 f1 y0 y1
    generalize (W2.setCell ⟨b, 0, none⟩ (.string (tth l m).key)).setCell ⟨b, 1, none⟩ (.int .i64 (tth l m).no) = W3 at *
    exact bodyPost_ret (v := .agg #[.string (tth l m).key, .int .i64 (tth l m).no]) (by simp [results, Tryz.results71, go_sem, q0, q1]) rfl ⟨rfl, hfin.out⟩
  | succ h ih =>
    intro p T f w hT hn hs h1 h4 T' x hx
    obtain ⟨l, ks⟩ := T
    have hfm : Hid (∀ a, w.heap.size ≤ a → f a = 0) := hT.bound
    obtain ⟨lv, kv, ps, g, e1, e2, e3, e5, e4⟩ := hT
    have hl1 : 1 ≤ l.length := h1
    have hl4 : l.length ≤ 4 := h4
    have hkl : ks.length = l.length + 1 := hs.1
    have hpl := e5.len
    obtain ⟨m, hm⟩ : ∃ m, l.length = m + 1 := ⟨l.length - 1, by omega⟩
    obtain ⟨s1, s2, s3⟩ := kid_ok hs (Nat.le_refl l.length)
    obtain ⟨q, g0, g1, g2, hpi, hKq, k0, k2, hg⟩ := Ks.cut e5 (kth_some (show l.length < ks.length by omega))
    have hlo := last_ok h (kth ks l.length) s3 (by omega)
    obtain ⟨K', x', hK'⟩ : ∃ K' x', Hid ((K', x') = lastT h (kth ks l.length)) := ⟨_, _, rfl⟩
    rw [← hK'.out] at hlo
    dsimp only at hlo
    obtain ⟨rfl, rfl⟩ : T' = fillT l (ks.set l.length K') l.length ∧ x = x' := by
      have := hx.out
      unfold lastT at this
      rw [← hK'.out] at this
      exact ⟨congrArg Prod.fst this, congrArg Prod.snd this⟩
    have hnear := hid (near_set (l' := l) hs rfl hl1 (Nat.le_refl l.length) (J := K') ⟨by have := hlo.2.2.1; show 1 ≤ K'.l.length; exact (by omega : 1 ≤ K'.l.length), by have := hlo.2.2.2; show K'.l.length ≤ 4; exact (by omega : K'.l.length ≤ 4), hlo.1⟩)
    have hn1 : ∀ a, g1 a ≤ 1 := fun a => by have := hn a; rw [e4 a, hg a] at this; omega
    have hx0 := hid ((Ext.refl w).alloc_right (.cells #[.string ⟨#[]⟩, .int .i64 0] 83))
    have ha := heap_alloc_new w (.cells #[.string ⟨#[]⟩, .int .i64 0] 83)
    have ih' := hid (ih q (kth ks l.length) g1 (w.alloc (.cells #[.string ⟨#[]⟩, .int .i64 0] 83)) (hKq.ext hx0.out) hn1 s3 (by omega) s2 K' x hK')
    obtain ⟨A, c, rfl, hr⟩ := own_rd e2
    obtain ⟨kA, kc, rfl, hkr⟩ := own_rd e3
    obtain ⟨kad, rfl, -⟩ := hkr.2.2.2 (by omega)
    have hmx := Rd.max hr
    have hkmx := Rd.max hkr
    have c0 := hx0.out.cell (node_c0 e1)
    have c1 := hx0.out.cell (node_c1 e1)
    have cq := hx0.out.cell (rd_ptr hkr hpi)
    have lp := (Array.getElem?_eq_some_iff.1 e1).1
    have lp0 := World.block_lt_of_cell? _ _ c0
    dsimp only at lp0
    have hw1 : IntKind.i64.wrap ((l.length : Int) - 1) = (m : Int) := by rw [IntWalk.i64_in _ (by omega)]; omega
    have hw2 : ((l.length : Int) - 1) = (m : Int) := by omega
    have hw3 : IntKind.i64.wrap ((m : Int) + 1) = (l.length : Int) := by rw [IntWalk.i64_in _ (by omega)]; omega
    have hw4 : ((m : Int) + 1) = (l.length : Int) := by omega
    have hw5 : (l.length : Int) < (ps.length : Int) := by omega
    have hw6 : ((ps.length : Int) == 0) = false := by rw [beq_eq_false_iff_ne]; omega
    have hlps : l.length < ps.length := by omega
    have hlk : Hid (l.length < ks.length) := by unfold Hid; omega
    replace e1 := (hx0.out.block lp).trans e1
    replace e2 := hx0.out.own e2
    replace e3 := hx0.out.own e3
    replace k0 := Ks.frame (fun _ _ _ h1 (h2 : ∀ a, _ → (fun _ => 0) a = 0) => TN.ext h1 hx0.out) k0 (fun _ _ => rfl)
    replace k2 := Ks.frame (fun _ _ _ h1 (h2 : ∀ a, _ → (fun _ => 0) a = 0) => TN.ext h1 hx0.out) k2 (fun _ _ => rfl)
    replace e1 := hid e1
    replace e2 := hid e2
    replace e3 := hid e3
    replace k0 := hid k0
    replace k2 := hid k2
    replace hm := hid hm
    replace hpi := hid hpi
    replace hg := hid hg
    replace e4 := hid e4
    replace hn := hid hn
    replace hkl := hid hkl
    replace hpl := hid hpl
    clear hr hkr hx hs e5 hKq hlo s1 s2 s3 hn1 h1 h4
    go_enter Tryz.func71, Tryz.ntmps71
    go_upto_region 1 with fail
    obtain ⟨b, hb⟩ : ∃ b, b = w.heap.size := ⟨_, rfl⟩
    rw [← hb] at ha
    simp only [← hb]
    have lb := (Array.getElem?_eq_some_iff.1 ha).1
    have hbw : Hid (w.heap.size ≤ b) := by unfold Hid; omega
    have hfb : Hid (f b = 0) := hfm.out b (by omega)
    have hsz0 := hx0.out.size
    replace hb := hid hb
    generalize w.alloc (.cells #[.string ⟨#[]⟩, .int .i64 0] 83) = W0 at *
    go_wp2_with fail
    refine ih'.out.mono ?_
    rintro e' W1 ⟨rfl, ht⟩
    obtain ⟨g1', t1, t2, t3, t4, t5, t6, t7, t8, t9⟩ := kid_turned (f := f) e1.out e2.out e3.out hpi.out (kth_some hlk.out) k0.out k2.out (fun a => by rw [e4.out a, hg.out a]) hn.out (fun a ha => hfm.out a (Nat.le_trans hsz0 ha)) ht
    have hTN := hid (kid_shut t1 t2 t3 t4 t5 t6 hpi.out hlk.out)
    have hb1 := (t9.2.2.2.2 b lb hfb.out).trans ha
    replace t7 := hid t7
    replace t8 := hid t8
    replace t9 := hid t9
    have hxd := (Ext.refl W1).alloc_right (.cells #[.string x.key, .int .i64 x.no] 83)
    have had := heap_alloc_new W1 (.cells #[.string x.key, .int .i64 x.no] 83)
    have hfd := hTN.out.bound W1.heap.size (Nat.le_refl _)
    have hfill := hid (fill_any h p l.length l (ks.set l.length K') _ _ (hTN.out.ext hxd) t7.out hnear.out hl4)
    have hb2 := (hxd.block (Array.getElem?_eq_some_iff.1 hb1).1).trans hb1
    have hsz1 := hxd.size
    have t9' : Hid (FR f W0 (W1.alloc (.cells #[.string x.key, .int .i64 x.no] 83))) := t9.out.trans (FR.of_ext (f := f) hxd) (fun _ _ h => h)
    have lb1 := (Array.getElem?_eq_some_iff.1 hb1).1
    clear ih' ht t1 t2 t3 t4 t5 t6 c0 c1 cq hxd ha hb1
    go_wp2_with fail
    obtain ⟨d, hd⟩ : ∃ d, d = W1.heap.size := ⟨_, rfl⟩
    rw [← hd] at had hfd lb1
    simp only [← hd]
    replace hd := hid hd
    generalize W1.alloc (.cells #[.string x.key, .int .i64 x.no] 83) = W2 at *
    refine hfill.out.mono ?_
    rintro e' W3 ⟨rfl, ht⟩
    have hT3 := hid (Turned.seq t8.out t9'.out ht)
    obtain ⟨f3, r1, r2, r3, r4⟩ := ht
    have hb3 := (r4.2.2.2.2 b (Array.getElem?_eq_some_iff.1 hb2).1 (by have := t8.out b lb; have := hfb.out; show one1 p b + _ + _ + _ = 0; omega)).trans hb2
    have had3 := (r4.2.2.2.2 d (Array.getElem?_eq_some_iff.1 had).1 hfd).trans had
    clear hfill r1 r2 r3 r4 had hb2
    have y0 : W3.cell? ⟨d, 0, none⟩ = some (.string x.key) := by rw [Lib.cell_of_heap had3]; rfl
    have y1 : W3.cell? ⟨d, 1, none⟩ = some (.int .i64 x.no) := by rw [Lib.cell_of_heap had3]; rfl
    have x0 : W3.cell? ⟨b, 0, none⟩ = some (.string ⟨#[]⟩) := by rw [Lib.cell_of_heap hb3]; rfl
    have x1 : (W3.setCell ⟨b, 0, none⟩ (.string x.key)).cell? ⟨b, 1, none⟩ = some (.int .i64 0) := set_keep (by rw [Lib.cell_of_heap hb3]; rfl) (off_ne (by decide))
    have f0 := Lib.frozen_of_heap hb3 0
    have f1 : (W3.setCell ⟨b, 0, none⟩ (.string x.key)).frozen? ⟨b, 1, none⟩ = false := (World.frozen?_setCell _ _ _ _).trans (Lib.frozen_of_heap hb3 1)
    have q0 : ((W3.setCell ⟨b, 0, none⟩ (.string x.key)).setCell ⟨b, 1, none⟩ (.int .i64 x.no)).cell? ⟨b, 0, none⟩ = some (.string x.key) := set_keep (set_get x0) (off_ne (by decide))
    have q1 : ((W3.setCell ⟨b, 0, none⟩ (.string x.key)).setCell ⟨b, 1, none⟩ (.int .i64 x.no)).cell? ⟨b, 1, none⟩ = some (.int .i64 x.no) := set_get x1
    have hfin := hid (Turned.ret2 (b := b) hx0.out hT3.out hbw.out lb hfb.out (.string x.key) (.int .i64 x.no))
    clear hT3 had3 hb3 hfd hTN t7 t8 t9 t9'
    go_wp2
    clear x0 x1 f0 f1 y0 y1
    generalize (W3.setCell ⟨b, 0, none⟩ (.string x.key)).setCell ⟨b, 1, none⟩ (.int .i64 x.no) = W4 at *
    exact bodyPost_ret (v := .agg #[.string x.key, .int .i64 x.no]) (by simp [results, Tryz.results71, go_sem, q0, q1]) rfl ⟨rfl, hfin.out⟩
open Go.RowKit Go.Shelf
theorem kid_row {W1 W2 : World} {h p q i : Nat} {l' : List Te} {ks : List BT} {ps : List Nat} {lv kv : Value} {g0 g1' g2 : Nat → Nat} {K' : BT} (t1 : TN W1 h q K' g1') (t2 : W1.heap[p]? = some (.cells #[lv, kv] 55 (0, 0))) (t4 : W1.ownsRow 0 51 1 kv ps.length (ptrs ps)) (t5 : Ks (TN W1 h) (ps.take i) (ks.take i) g0) (t6 : Ks (TN W1 h) (ps.drop (i + 1)) (ks.drop (i + 1)) g2) (t7 : ∀ a, one1 p a + ob lv a + ob kv a + (g0 a + g1' a + g2 a) ≤ 1) (hpi : ps[i]? = some q) (hi : i < ks.length)
    (hg : W1.grownBy W2 lv.ownBlock) (ho : W2.ownsRow 0 83 2 lv l'.length (tents l')) :
    TN W2 (h + 1) p (.nd l' (ks.set i K')) (fun a => one1 p a + ob lv a + ob kv a + (g0 a + g1' a + g2 a)) ∧ FR (ob lv) W1 W2 := by
  have hF : FR (ob lv) W1 W2 := fr_grow (FR.of_ext (Ext.refl W1)) hg (fun k e _ h0 => by rw [ob_some e] at h0; cases h0)
  have z : ∀ a, 0 < one1 p a + ob kv a + (g0 a + g1' a + g2 a) → ob lv a = 0 := fun a ha => by have := t7 a; omega
  refine ⟨kid_shut (t1.frame hF (fun a ha => z a (by omega))) ((hF.2.2.2.2 p (Array.getElem?_eq_some_iff.1 t2).1 (z p (by rw [one_self]; omega))).trans t2) ho (hF.own t4 (fun k e => z k (by rw [ob_some e]; omega))) (Ks.frame (fun _ _ _ h1 h2 => TN.frame hF h1 h2) t5 (fun a ha => z a (by omega))) (Ks.frame (fun _ _ _ h1 h2 => TN.frame hF h1 h2) t6 (fun a ha => z a (by omega))) hpi hi, hF⟩
theorem ntake_any : ∀ (h p : Nat) (T : BT) (f : Nat → Nat) (w : World) (e : Te), TN w h p T f → (∀ a, f a ≤ 1) → Shp h T → (h ≠ 0 → 1 ≤ T.l.length) → Srt (flat h T) → e ∈ flat h T → T.l.length ≤ 4 → ∀ T' : BT, Hid (T' = takeT h T e) →
    Calls Tryz.prog 53 #[.pointer (some ⟨p, 0, none⟩), .agg #[.string e.key, .int .i64 e.no]] w fun e' w' => e' = .returned (.tuple #[]) ∧ Turned w w' h p f T' := by
  intro h
  induction h with
  | zero =>
    intro p T f w e hT hn hs h1 hS he hl T' hT'
    have hSl : Srt T.l := by obtain ⟨l, ks⟩ := T; exact hS
    have heT : e ∈ T.l := by obtain ⟨l, ks⟩ := T; exact he
    obtain ⟨l, ks⟩ := T
    replace hSl : Srt l := hSl
    replace heT : e ∈ l := heT
    obtain ⟨lv, kv, ps, g, e1, e2, e3, e5, e4⟩ := hT.opn
    obtain ⟨A, c, rfl, hr⟩ := own_rd e2
    have hml := Rd.max hr
    have hl4 : l.length ≤ 4 := hl
    have ha := heap_alloc_new w (.cells #[.string e.key, .int .i64 e.no] 83)
    have hx1 := hid ((Ext.refl w).alloc_right (.cells #[.string e.key, .int .i64 e.no] 83))
    have z0 : (w.alloc (.cells #[.string e.key, .int .i64 e.no] 83)).cell? ⟨w.heap.size, 0, none⟩ = some (.string e.key) := by rw [Lib.cell_of_heap ha]; rfl
    have z1 : (w.alloc (.cells #[.string e.key, .int .i64 e.no] 83)).cell? ⟨w.heap.size, 1, none⟩ = some (.int .i64 e.no) := by rw [Lib.cell_of_heap ha]; rfl
    have zp := hx1.out.cell (node_c0 e1)
    have lp := World.block_lt_of_cell? _ _ zp
    dsimp only at lp
    have hP := hid (place_any p A l.length c l e _ zp (hr.ext hx1.out) hSl (by omega))
    have hil := (rank_cut hSl e).1
    have hbs : Hid (∀ a, f a ≠ 0 → a < w.heap.size) := fun a h0 => Nat.lt_of_not_le (fun h1 => h0 (hT.bound a h1))
    have hrk := (at_rank hSl heT).1
    obtain ⟨rfl, rfl, hg0⟩ := e5
    replace e4 : ∀ a, f a = one1 p a + ob (.slice A l.length c) a + ob kv a := fun a => by rw [e4 a, hg0 a]; omega
    obtain ⟨kA, kc, rfl, -⟩ := own_rd e3
    obtain rfl : T' = .nd (l.take (rankT l e) ++ l.drop (rankT l e + 1)) [] := hT'.out
    have hlen : Hid ((l.take (rankT l e) ++ l.drop (rankT l e + 1)).length = l.length - 1) := by unfold Hid; rw [List.length_append, List.length_take, List.length_drop]; omega
    have htn := hid (show tents (l.take (rankT l e) ++ l.drop (rankT l e + 1)) = (tents l).take (rankT l e * 2) ++ (tents l).drop ((rankT l e + 1) * 2) by rw [tents_append, tents_take, tents_drop])
    generalize l.take (rankT l e) ++ l.drop (rankT l e + 1) = l' at *
    clear hT' he heT
    clear ha zp hr
    go_enter Tryz.func53, Tryz.ntmps53
    go_upto_region 1 with fail
    obtain ⟨b, hb0⟩ : ∃ b, b = w.heap.size := ⟨_, rfl⟩
    rw [← hb0] at z0 z1
    simp only [← hb0]
    replace hb0 := hid hb0
    generalize w.alloc (.cells #[.string e.key, .int .i64 e.no] 83) = w1 at *
    generalize rankT l e = i at *
    generalize memT l e = mm at *
    go_wp2_with fail
    refine hP.out.mono ?_
    rintro e' w2 ⟨rfl, hx2⟩
    replace z0 := hx2.cell z0
    replace z1 := hx2.cell z1
    replace hx1 := hid (hx1.out.trans hx2)
    clear hx2 hP
    replace e1 := (hx1.out.block (Array.getElem?_eq_some_iff.1 e1).1).trans e1
    replace e2 := hx1.out.own e2
    replace e3 := hx1.out.own e3
    have lp2 := (Array.getElem?_eq_some_iff.1 e1).1
    have zk := node_c1 e1
    have zp := node_c0 e1
    obtain ⟨k, hk⟩ : ∃ k, k = i + 1 := ⟨_, rfl⟩
    have hw1 : IntKind.i64.wrap ((i : Int) + 1) = (k : Int) := by rw [IntWalk.i64_in _ (by omega)]; omega
    have hw2 : ((i : Int) + 1) = (k : Int) := by omega
    have hD := del_N l.length i _ (tents l) w2 hrk (by omega) e2 (tents_one _)
    rw [← hk] at hD htn
    replace hD := hid hD
    replace hk := hid hk
    go_upto_region 4 with fail
    go_wp2_with fail
    refine hD.out.mono ?_
    rintro e' W2 ⟨v', rfl, ho', hrw⟩
    rw [← htn.out, ← hlen.out] at ho'
    have hfin : ∀ u, u = v' → Turned w (W2.setCell ⟨p, 0, none⟩ u) 0 p f (.nd l' []) := fun u eu => by
      rw [eu]
      exact leaf_put hx1.out e1 e2 e3 e4 hn hrw ho'
    have bp := (hrw.1.block p lp2 (fun e0 => by have := hn p; rw [e4 p, ob_some e0.symm, one_self] at this; omega)).trans e1
    have y0 := node_c0 bp
    have y1 := Lib.frozen_of_heap bp 0
    replace hfin := hid hfin
    obtain ⟨Av, cv, rfl, -⟩ := own_form ho'
    replace hfin := hid (hfin.out _ rfl)
    clear ho' hrw hD bp zk zp e1 e2 e3
    go_wp2_with fail
    refine bodyPost_ret (results_none rfl _ _ _) rfl ?_
    exact ⟨rfl, hfin.out⟩
  | succ h ih =>
    intro p T f w e hT hn hs h1 hS he hl T' hT'
    have hSl : Srt T.l := by obtain ⟨l, ks⟩ := T; exact (node_lt hs hS e).1
    obtain ⟨l, ks⟩ := T
    replace hSl : Srt l := hSl
    obtain ⟨lv, kv, ps, g, e1, e2, e3, e5, e4⟩ := hT.opn
    obtain ⟨A, c, rfl, hr⟩ := own_rd e2
    have hml := Rd.max hr
    have hl4 : l.length ≤ 4 := hl
    have ha := heap_alloc_new w (.cells #[.string e.key, .int .i64 e.no] 83)
    have hx1 := hid ((Ext.refl w).alloc_right (.cells #[.string e.key, .int .i64 e.no] 83))
    have z0 : (w.alloc (.cells #[.string e.key, .int .i64 e.no] 83)).cell? ⟨w.heap.size, 0, none⟩ = some (.string e.key) := by rw [Lib.cell_of_heap ha]; rfl
    have z1 : (w.alloc (.cells #[.string e.key, .int .i64 e.no] 83)).cell? ⟨w.heap.size, 1, none⟩ = some (.int .i64 e.no) := by rw [Lib.cell_of_heap ha]; rfl
    have zp := hx1.out.cell (node_c0 e1)
    have lp := World.block_lt_of_cell? _ _ zp
    dsimp only at lp
    have hP := hid (place_any p A l.length c l e _ zp (hr.ext hx1.out) hSl (by omega))
    have hil := (rank_cut hSl e).1
    have hbs : Hid (∀ a, f a ≠ 0 → a < w.heap.size) := fun a h0 => Nat.lt_of_not_le (fun h1 => h0 (hT.bound a h1))
    obtain ⟨-, K, hKi, hfl, hA, hB, hSK⟩ := node_lt hs hS e
    obtain ⟨K2, hKi2, hmm⟩ := mem_node hs hS e
    obtain rfl := Option.some.inj (hKi.symm.trans hKi2)
    rw [memT_iff.2 he] at hmm
    have hl1 : 1 ≤ l.length := h1 (by omega)
    obtain ⟨q, g0, g1, g2, hpi, hKq, k0, k2, hg⟩ := Ks.cut (show Ks (TN w h) ps ks g from e5) hKi
    obtain ⟨s1, s2, s3⟩ := hs.2 K (List.mem_of_getElem? hKi)
    have hil2 : rankT l e < ps.length := (List.getElem?_eq_some_iff.1 hpi).1
    have hik : Hid (rankT l e < ks.length) := (List.getElem?_eq_some_iff.1 hKi).1
    have hKe : kth ks (rankT l e) = K := by have := kth_some hik.out; rw [hKi] at this; exact (Option.some.inj this).symm
    have hkl : ks.length = l.length + 1 := hs.1
    have hpsl : ps.length = ks.length := Ks.len (show Ks (TN w h) ps ks g from e5)
    have hn1 : ∀ a, g1 a ≤ 1 := fun a => by have := hn a; rw [e4 a, hg a] at this; omega
    have hnear := hid (fun (l' : List Te) (hl' : l'.length = l.length) (J : BT) (hJ : 1 ≤ J.l.length ∧ J.l.length ≤ 4 ∧ Shp h J) => near_set (l' := l') hs hl' hl1 hil hJ)
    have hatr := hid (fun hm : memT l e = true => (at_rank hSl (memT_iff.1 hm)).1)
    have hRT := hT'.out
    unfold takeT at hRT
    rw [hKe] at hRT
    obtain ⟨KL, xL, hKL⟩ : ∃ KL xL, Hid ((KL, xL) = lastT h K) := ⟨_, _, rfl⟩
    have hlo := last_ok h K s3 (by omega)
    rw [← hKL.out] at hlo hRT
    dsimp only at hlo hRT
    have ihL := hid (fun W (hx : Ext w W) => last_any h q K g1 W (hKq.ext hx) hn1 s3 (by omega) s2 KL xL hKL)
    have hJL : Hid (1 ≤ KL.l.length ∧ KL.l.length ≤ 4 ∧ Shp h KL) := ⟨by have := hlo.2.2.1; omega, by have := hlo.2.2.2; omega, hlo.1⟩
    obtain ⟨KT, hKT⟩ : ∃ KT, Hid (KT = takeT h K e) := ⟨_, rfl⟩
    rw [← hKT.out] at hRT
    have ihT := hid (fun W (hx : Ext w W) (hm : memT (flat h K) e = true) => ih q K g1 W e (hKq.ext hx) hn1 s3 (fun _ => by omega) hSK (memT_iff.1 hm) s2 KT hKT)
    have hJT : Hid (memT (flat h K) e = true → 1 ≤ KT.l.length ∧ KT.l.length ≤ 4 ∧ Shp h KT) := fun hm => by
      have := take_ok h K e s3 (fun _ => by omega) hSK (memT_iff.1 hm)
      rw [← hKT.out] at this
      exact ⟨by omega, by omega, this.1⟩
    replace hRT := hid hRT
    replace hmm := hid hmm
    obtain ⟨kA, kc, rfl, hkr⟩ := own_rd e3
    have hkm := Rd.max hkr
    obtain ⟨ad, rfl, -⟩ := hkr.2.2.2 (by omega)
    replace hkl := hid hkl
    replace hpsl := hid hpsl
    have hfb : Hid (∀ a, w.heap.size ≤ a → f a = 0) := hT.bound
    replace hn := hid hn
    replace e4 := hid e4
    replace hg := hid hg
    replace hpi := hid hpi
    replace hKi := hid hKi
    clear hKq e5 hfl hA hB hSK hs hS he hl hT hKe hSl hkr s1 s2 s3 hn1 hT' hKi2 hlo h1
    clear ha zp hr
    go_enter Tryz.func53, Tryz.ntmps53
    go_upto_region 1 with fail
    obtain ⟨b, hb0⟩ : ∃ b, b = w.heap.size := ⟨_, rfl⟩
    rw [← hb0] at z0 z1
    simp only [← hb0]
    replace hb0 := hid hb0
    generalize w.alloc (.cells #[.string e.key, .int .i64 e.no] 83) = w1 at *
    generalize rankT l e = i at *
    generalize memT l e = mm at *
    go_wp2_with fail
    refine hP.out.mono ?_
    rintro e' w2 ⟨rfl, hx2⟩
    replace z0 := hx2.cell z0
    replace z1 := hx2.cell z1
    replace hx1 := hid (hx1.out.trans hx2)
    clear hx2 hP
    replace e1 := (hx1.out.block (Array.getElem?_eq_some_iff.1 e1).1).trans e1
    replace e2 := hx1.out.own e2
    replace e3 := hx1.out.own e3
    have lp2 := (Array.getElem?_eq_some_iff.1 e1).1
    replace k0 := Ks.frame (fun p T g h1 (h2 : ∀ a, 0 < g a → (fun _ => 0) a = 0) => TN.ext h1 hx1.out) k0 (fun _ _ => rfl)
    replace k2 := Ks.frame (fun p T g h1 (h2 : ∀ a, 0 < g a → (fun _ => 0) a = 0) => TN.ext h1 hx1.out) k2 (fun _ _ => rfl)
    have zk := node_c1 e1
    have zl := node_c0 e1
    have zq := rd_ptr (Rd.of_own e3) hpi.out
    have hn0 : ((ps.length : Int) == 0) = false := by rw [beq_eq_false_iff_ne]; omega
    have hki : (i : Int) < (ps.length : Int) := by omega
    cases mm with
    | true =>
      have hil3 := hatr.out rfl
      have hil4 : (i : Int) < (l.length : Int) := by omega
      obtain ⟨ad0, rfl⟩ : ∃ ad0, A = some ad0 := by
        obtain ⟨A', c', e', hr'⟩ := own_rd e2
        injection e' with e' _ _
        subst e'
        obtain ⟨a0, h0, -⟩ := hr'.2.2.2 (by omega)
        exact ⟨a0, h0⟩
      have hTr : Hid (T' = fillT (l.set i xL) (ks.set i KL) i) := hRT.out.trans (if_pos rfl)
      clear hRT ihT hJT hmm hatr hKT
      go_upto_region 6 with fail
      have I0 : (fun w' : World => w'.cell? ⟨p, 0, none⟩ = some (.slice (some ad0) l.length c) ∧ w'.cell? ⟨p, 1, none⟩ = some (.slice (some ad) ps.length kc) ∧ w'.cell? (ad.add i) = some (.pointer (some ⟨q, 0, none⟩))) w2.drew := ⟨zl, zk, zq⟩
      have hxW := hid (hx1.out.drew_right)
      refine region_J (fun w' : World => w'.cell? ⟨p, 0, none⟩ = some (.slice (some ad0) l.length c) ∧ w'.cell? ⟨p, 1, none⟩ = some (.slice (some ad) ps.length kc) ∧ w'.cell? (ad.add i) = some (.pointer (some ⟨q, 0, none⟩))) 14 (by kernel_rfl) ?_
      replace e1 : w2.drew.heap[p]? = _ := e1
      replace e2 := (Ext.refl w2).drew_right.own e2
      replace e3 := (Ext.refl w2).drew_right.own e3
      replace k0 := Ks.frame (fun p T g h1 (h2 : ∀ a, 0 < g a → (fun _ => 0) a = 0) => TN.ext h1 (Ext.refl w2).drew_right) k0 (fun _ _ => rfl)
      replace k2 := Ks.frame (fun p T g h1 (h2 : ∀ a, 0 < g a → (fun _ => 0) a = 0) => TN.ext h1 (Ext.refl w2).drew_right) k2 (fun _ _ => rfl)
      clear z0 z1 zk zq zl hx1
      generalize w2.drew = W at *
      refine JT 0 (v := ?vc0) I0 ?yc0 ?rc0
      case yc0 => (intro w h; obtain ⟨_, _, _⟩ := h; go_simp; with_reducible rfl)
      simp only [Act.put, lyA, lyB, lyC, lyD, lyE, lyF]
      refine JT 1 (v := ?vc1) I0 ?yc1 ?rc1
      case yc1 => (intro w h; obtain ⟨_, _, _⟩ := h; go_simp; with_reducible rfl)
      simp only [Act.put, lyA, lyB, lyC, lyD, lyE, lyF]
      refine JT 2 (v := ?vc2) I0 ?yc2 ?rc2
      case yc2 => (intro w h; obtain ⟨_, _, _⟩ := h; go_simp; with_reducible rfl)
      simp only [Act.put, lyA, lyB, lyC, lyD, lyE, lyF]
      refine JT 3 (v := ?vc3) I0 ?yc3 ?rc3
      case yc3 => (intro w h; obtain ⟨_, _, _⟩ := h; go_simp; with_reducible rfl)
      simp only [Act.put, lyA, lyB, lyC, lyD, lyE, lyF]
      refine JT 4 (v := ?vc4) I0 ?yc4 ?rc4
      case yc4 => (intro w h; obtain ⟨_, _, _⟩ := h; go_simp; with_reducible rfl)
      simp only [Act.put, lyA, lyB, lyC, lyD, lyE, lyF]
      refine JT 5 (v := ?vc5) I0 ?yc5 ?rc5
      case yc5 => (intro w h; obtain ⟨_, _, _⟩ := h; go_simp; with_reducible rfl)
      simp only [Act.put, lyA, lyB, lyC, lyD, lyE, lyF]
      refine JT 6 (v := ?vc6) I0 ?yc6 ?rc6
      case yc6 => (intro w h; obtain ⟨_, _, _⟩ := h; go_simp; with_reducible rfl)
      simp only [Act.put, lyA, lyB, lyC, lyD, lyE, lyF]
      refine JT 7 (v := ?vc7) I0 ?yc7 ?rc7
      case yc7 => (intro w h; obtain ⟨_, _, _⟩ := h; go_simp; with_reducible rfl)
      simp only [Act.put, lyA, lyB, lyC, lyD, lyE, lyF]
      refine JT 8 (v := ?vc8) I0 ?yc8 ?rc8
      case yc8 => (intro w h; obtain ⟨_, _, _⟩ := h; go_simp; with_reducible rfl)
      simp only [Act.put, lyA, lyB, lyC, lyD, lyE, lyF]
      refine JT 9 (v := ?vc9) I0 ?yc9 ?rc9
      case yc9 => (intro w h; obtain ⟨_, _, _⟩ := h; go_simp; with_reducible rfl)
      simp only [Act.put, lyA, lyB, lyC, lyD, lyE, lyF]
      refine JT 10 (v := ?vc10) I0 ?yc10 ?rc10
      case yc10 => (intro w h; obtain ⟨_, _, _⟩ := h; go_simp; with_reducible rfl)
      simp only [Act.put, lyA, lyB, lyC, lyD, lyE, lyF]
      refine JT 11 (v := ?vc11) I0 ?yc11 ?rc11
      case yc11 => (intro w h; obtain ⟨_, _, _⟩ := h; go_simp; with_reducible rfl)
      simp only [Act.put, lyA, lyB, lyC, lyD, lyE, lyF]
      refine J_one 12 rfl (by kernel_rfl) (fun K hK => ?_)
      go_simp
      refine (ihL.out W hxW.out).mono ?_
      rintro e' W1 ⟨rfl, ht⟩
      obtain ⟨g1', t1, t2, t3, t4, t5, t6, t7, t8, t9⟩ := kid_turned (f := f) e1 e2 e3 hpi.out hKi.out k0 k2 (fun a => by rw [e4.out a, hg.out a]) hn.out (fun a ha => hfb.out a (Nat.le_trans hxW.out.size ha)) ht
      have I2 : (fun w' : World => w'.cell? ⟨p, 0, none⟩ = some (.slice (some ad0) l.length c) ∧ w'.cell? ⟨p, 1, none⟩ = some (.slice (some ad) ps.length kc) ∧ w'.cell? (ad.add i) = some (.pointer (some ⟨q, 0, none⟩))) W1 := ⟨node_c0 t2, node_c1 t2, rd_ptr (Rd.of_own t4) hpi.out⟩
      have hf1 := (own_freeA t3 (i * 2)).1
      have hz0 := (own_entryA t3 hil3).1
      have hz1 := (own_midA t3 hil3 (.string xL.key)).1
      have hf2 := (own_midA t3 hil3 (.string xL.key)).2
      have hot := own_turnA (x := xL) t3 hil3
      have hrow := hid (kid_row (l' := l.set i xL) t1 t2 t4 t5 t6 t7 hpi.out hik.out hot.2 (by rw [List.length_set]; exact hot.1))
      replace t7 := hid t7
      replace t8 := hid t8
      replace t9 := hid t9
      clear ht e1 e2 e3 k0 k2 ihL t1 t2 t3 t4 t5 t6 hot
      refine hK _ _ ⟨fun _ => I2, ?_⟩
      clear hK K
      try simp only [Act.put, lyA, lyB, lyC, lyD, lyE, lyF]
      refine J_one 13 rfl (by kernel_rfl) (fun K hK => ?_)
      go_simp
      refine hK _ _ ⟨fun _ => I2, ?_⟩
      clear hK K
      try simp only [Act.put, lyD, lyE, lyF]
      refine J_one 14 rfl (by kernel_rfl) (fun K hK => ?_)
      go_simp
      refine hK _ _ ⟨fun h => absurd rfl h, ?_⟩
      clear hK K
      refine J_done (by kernel_rfl) (OnlyOn.normal ?_)
      clear hf1 hf2 hz0 hz1 I2 I0
      generalize (W1.setCell (ad0.add (i * 2)) (.string xL.key)).setCell ⟨(ad0.add (i * 2)).block, (ad0.add (i * 2)).off + 1, none⟩ (.int .i64 xL.no) = W2 at *
      have hfill := hid (fill_any h p i (l.set i xL) (ks.set i KL) _ W2 hrow.out.1 t7.out (hnear.out _ (List.length_set ..) KL hJL.out) (by rw [List.length_set]; omega))
      rw [← hTr.out] at hfill
      have hF2 : Hid (FR f W W2) := t9.out.trans hrow.out.2 (fun k hk h0 => by have := t8.out k hk; omega)
      go_wp2_with fail
      refine hfill.out.mono ?_
      rintro e' W3 ⟨rfl, ht⟩
      have hfin := hid (Turned.left (Turned.seq t8.out hF2.out ht) hxW.out)
      clear hfill ht
      go_wp2_with fail
      go_end0
      exact ⟨rfl, hfin.out⟩
    | false =>
      have hTr : Hid (T' = fillT l (ks.set i KT) i) := hRT.out.trans (if_neg (by decide))
      have hmK : memT (flat h K) e = true := by have := hmm.out; rw [Bool.false_or] at this; exact this.symm
      replace ihT := hid (fun W hx => ihT.out W hx hmK)
      replace hJT := hid (hJT.out hmK)
      clear hRT ihL hJL hmm hatr hKL hmK
      go_upto_region 2 with fail
      have I0 : (fun w' : World => w'.cell? ⟨p, 1, none⟩ = some (.slice (some ad) ps.length kc) ∧ w'.cell? (ad.add i) = some (.pointer (some ⟨q, 0, none⟩)) ∧ w'.cell? ⟨b, 0, none⟩ = some (.string e.key) ∧ w'.cell? ⟨b, 1, none⟩ = some (.int .i64 e.no)) w2.drew := ⟨zk, zq, z0, z1⟩
      have hxW := hid (hx1.out.drew_right)
      refine region_J (fun w' : World => w'.cell? ⟨p, 1, none⟩ = some (.slice (some ad) ps.length kc) ∧ w'.cell? (ad.add i) = some (.pointer (some ⟨q, 0, none⟩)) ∧ w'.cell? ⟨b, 0, none⟩ = some (.string e.key) ∧ w'.cell? ⟨b, 1, none⟩ = some (.int .i64 e.no)) 9 (by kernel_rfl) ?_
      replace e1 : w2.drew.heap[p]? = _ := e1
      replace e2 := (Ext.refl w2).drew_right.own e2
      replace e3 := (Ext.refl w2).drew_right.own e3
      replace k0 := Ks.frame (fun p T g h1 (h2 : ∀ a, 0 < g a → (fun _ => 0) a = 0) => TN.ext h1 (Ext.refl w2).drew_right) k0 (fun _ _ => rfl)
      replace k2 := Ks.frame (fun p T g h1 (h2 : ∀ a, 0 < g a → (fun _ => 0) a = 0) => TN.ext h1 (Ext.refl w2).drew_right) k2 (fun _ _ => rfl)
      clear z0 z1 zk zq zl hx1
      generalize w2.drew = W at *
      refine JO 0 (v := ?vd0) I0 ?yd0 ?rd0
      case yd0 => (intro w h; obtain ⟨_, _, _, _⟩ := h; go_simp; with_reducible rfl)
      simp only [Act.put, lyA, lyB, lyC, lyD, lyE, lyF]
      refine JO 1 (v := ?vd1) I0 ?yd1 ?rd1
      case yd1 => (intro w h; obtain ⟨_, _, _, _⟩ := h; go_simp; with_reducible rfl)
      simp only [Act.put, lyA, lyB, lyC, lyD, lyE, lyF]
      refine JO 2 (v := ?vd2) I0 ?yd2 ?rd2
      case yd2 => (intro w h; obtain ⟨_, _, _, _⟩ := h; go_simp; with_reducible rfl)
      simp only [Act.put, lyA, lyB, lyC, lyD, lyE, lyF]
      refine JO 3 (v := ?vd3) I0 ?yd3 ?rd3
      case yd3 => (intro w h; obtain ⟨_, _, _, _⟩ := h; go_simp; with_reducible rfl)
      simp only [Act.put, lyA, lyB, lyC, lyD, lyE, lyF]
      refine JO 4 (v := ?vd4) I0 ?yd4 ?rd4
      case yd4 => (intro w h; obtain ⟨_, _, _, _⟩ := h; go_simp; with_reducible rfl)
      simp only [Act.put, lyA, lyB, lyC, lyD, lyE, lyF]
      refine JO 5 (v := ?vd5) I0 ?yd5 ?rd5
      case yd5 => (intro w h; obtain ⟨_, _, _, _⟩ := h; go_simp; with_reducible rfl)
      simp only [Act.put, lyA, lyB, lyC, lyD, lyE, lyF]
      refine JO 6 (v := ?vd6) I0 ?yd6 ?rd6
      case yd6 => (intro w h; obtain ⟨_, _, _, _⟩ := h; go_simp; with_reducible rfl)
      simp only [Act.put, lyA, lyB, lyC, lyD, lyE, lyF]
      refine JO 7 (v := ?vd7) I0 ?yd7 ?rd7
      case yd7 => (intro w h; obtain ⟨_, _, _, _⟩ := h; go_simp; with_reducible rfl)
      simp only [Act.put, lyA, lyB, lyC, lyD, lyE, lyF]
      refine J_one 8 rfl (by kernel_rfl) (fun K hK => ?_)
      go_simp
      refine (ihT.out W hxW.out).mono ?_
      rintro e' w5 ⟨rfl, ht⟩
      obtain ⟨g1', t1, t2, t3, t4, t5, t6, t7, t8, t9⟩ := kid_turned (f := f) e1 e2 e3 hpi.out hKi.out k0 k2 (fun a => by rw [e4.out a, hg.out a]) hn.out (fun a ha => hfb.out a (Nat.le_trans hxW.out.size ha)) ht
      have hbc : ∀ j x, W.cell? ⟨b, j, none⟩ = some x → w5.cell? ⟨b, j, none⟩ = some x := fun j x hx => by
        rw [World.cell?_of_block (t9.2.2.2.2 b (World.block_lt_of_cell? _ _ hx) (hfb.out b (by have := hb0.out; omega)))]
        exact hx
      have I2 : (fun w' : World => w'.cell? ⟨p, 1, none⟩ = some (.slice (some ad) ps.length kc) ∧ w'.cell? (ad.add i) = some (.pointer (some ⟨q, 0, none⟩)) ∧ w'.cell? ⟨b, 0, none⟩ = some (.string e.key) ∧ w'.cell? ⟨b, 1, none⟩ = some (.int .i64 e.no)) w5 := ⟨node_c1 t2, rd_ptr (Rd.of_own t4) hpi.out, hbc 0 _ I0.2.2.1, hbc 1 _ I0.2.2.2⟩
      have hTN := hid (kid_shut t1 t2 t3 t4 t5 t6 hpi.out hik.out)
      replace t7 := hid t7
      replace t8 := hid t8
      replace t9 := hid t9
      clear ht e1 e2 e3 k0 k2 hbc ihT t1 t2 t3 t4 t5 t6
      refine hK _ _ ⟨fun _ => I2, ?_⟩
      clear hK K
      try simp only [Act.put, lyA, lyB, lyC, lyD, lyE, lyF]
      refine J_done (by kernel_rfl) (OnlyOn.normal ?_)
      clear I2 I0
      have hfill := hid (fill_any h p i l (ks.set i KT) _ w5 hTN.out t7.out (hnear.out l rfl KT hJT.out) (by omega))
      rw [← hTr.out] at hfill
      go_wp2_with fail
      refine hfill.out.mono ?_
      rintro e' W3 ⟨rfl, ht⟩
      have hfin := hid (Turned.left (Turned.seq t8.out t9.out ht) hxW.out)
      clear hfill ht
      go_wp2_with fail
      go_end0
      exact ⟨rfl, hfin.out⟩
open Go.RowKit Go.Shelf Go.MuLone
def takeEr (L : List Te) (x : Te) : Int := if okT x = true then if memT L x = true then 0 else 4 else 1
def takeLs (L : List Te) (x : Te) : List Te := if takeEr L x = 0 then delT L x else L
def takeX (h : Nat) (T : BT) (L : List Te) (x : Te) : Nat × BT := if takeEr L x = 0 then rootT h (takeT h T x) else (h, T)
theorem root_stay {h : Nat} {T : BT} (hr : h = 0 ∨ 1 ≤ T.l.length) : rootT h T = (h, T) := by
  obtain ⟨l, ks⟩ := T
  cases h with
  | zero => rfl
  | succ h =>
    rcases hr with h0 | h0
    · cases h0
    · rw [rootT, if_neg (fun e => by have h1 : 1 ≤ l.length := h0; rw [e] at h1; simp at h1)]
section
variable {lk : Int} {w w4 : World} {t h p q : Nat} {L : List Te} {T T' : BT} {fT f4 : Nat → Nat} {x : Te}
theorem take_stay (H : TreeAt lk w t L h p T fT) (hx : x ∈ L) (hT' : T' = takeT h T x) (tn4 : TN w4 h p T' f4) (nd4 : ∀ a, f4 a ≤ 1) (le4 : ∀ a, a < w.heap.size → f4 a ≤ fT a) (fr4 : FR fT w w4) (q0 : Int)
    (ht4 : w4.heap[t]? = some (.cells #[.int .i32 lk, .int .u32 q0, .pointer (some ⟨p, 0, none⟩), .int .i64 L.length] 64 (0, 0))) (hr : h = 0 ∨ 1 ≤ T'.l.length) :
    TreeTurnedX (h, T') lk w (w4.setCell ⟨t, 3, none⟩ (.int .i64 (delT L x).length)) t fT (delT L x) := by
  have hft : fT t = 0 := by have := H.nd t; rw [one_self] at this; omega
  have lt : t < w.heap.size := by obtain ⟨q, hq⟩ := H.ht; exact (Array.getElem?_eq_some_iff.1 hq).1
  have hf4 : f4 t = 0 := by have := le4 t lt; omega
  have ho := take_ok h T x H.sh H.l1 (by rw [H.fl]; exact H.sr) (by rw [H.fl]; exact hx)
  rw [← hT', H.fl] at ho
  have hl := len_del hx
  refine ⟨p, f4, ⟨⟨q0, tree_set3 ht4 _⟩, tn4.setc hf4, fun a => ?_, ho.1, by have := H.l4; have := ho.2.2.2; show T'.l.length ≤ 4; omega, fun h0 => by rcases hr with h1 | h1; exact absurd h1 h0; exact h1, ho.2.1, srt_del H.sr, fun e he => H.ok e (del_sub he), by have := H.le; omega⟩, le4, ?_⟩
  · by_cases e : a = t
    · subst e; rw [hf4, one_self]; exact Nat.le_refl _
    · rw [show one1 t a = 0 from if_neg e]; have := nd4 a; omega
  · exact (fr4.mono (fun k _ h0 => by have : one1 t k + fT k = 0 := h0; omega)).trans (fr_set (b := t)) (fun k _ h0 => by have : one1 t k + fT k = 0 := h0; omega)
theorem take_sink {h0 r : Nat} {ks : List BT} {f5 : Nat → Nat} (H : TreeAt lk w t L (h0 + 1) p T fT) (hx : x ∈ L) (hT' : BT.nd [] ks = takeT (h0 + 1) T x) (tn5 : TN w4 h0 r (kth ks 0) f5) (hle : ∀ a, f5 a ≤ f4 a) (nd4 : ∀ a, f4 a ≤ 1) (le4 : ∀ a, a < w.heap.size → f4 a ≤ fT a) (fr4 : FR fT w w4) (q0 : Int)
    (ht4 : w4.heap[t]? = some (.cells #[.int .i32 lk, .int .u32 q0, .pointer (some ⟨p, 0, none⟩), .int .i64 L.length] 64 (0, 0))) :
    TreeTurnedX (h0, kth ks 0) lk w ((w4.setCell ⟨t, 2, none⟩ (.pointer (some ⟨r, 0, none⟩))).setCell ⟨t, 3, none⟩ (.int .i64 (delT L x).length)) t fT (delT L x) := by
  have hft : fT t = 0 := by have := H.nd t; rw [one_self] at this; omega
  have lt : t < w.heap.size := by obtain ⟨q, hq⟩ := H.ht; exact (Array.getElem?_eq_some_iff.1 hq).1
  have hf5 : f5 t = 0 := by have := le4 t lt; have := hle t; omega
  have ho := take_ok (h0 + 1) T x H.sh H.l1 (by rw [H.fl]; exact H.sr) (by rw [H.fl]; exact hx)
  rw [← hT', H.fl] at ho
  have hro := root_ok ho.1 (by show 0 ≤ 4; omega)
  have er : rootT (h0 + 1) (BT.nd [] ks) = (h0, kth ks 0) := by rw [rootT, if_pos rfl]
  rw [er] at hro
  have hl := len_del hx
  refine ⟨r, f5, ⟨⟨q0, tree_set3 (tree_set2 ht4 _) _⟩, (tn5.setc hf5).setc hf5, fun a => ?_, hro.1, hro.2.2.1, hro.2.2.2, hro.2.1.trans ho.2.1, srt_del H.sr, fun e he => H.ok e (del_sub he), by have := H.le; omega⟩, fun a ha => Nat.le_trans (hle a) (le4 a ha), ?_⟩
  · by_cases e : a = t
    · subst e; rw [hf5, one_self]; exact Nat.le_refl _
    · rw [show one1 t a = 0 from if_neg e]; have := nd4 a; have := hle a; omega
  · have h1 : FR (fun a => one1 t a + fT a) w w4 := fr4.mono (fun k _ h0 => by have : one1 t k + fT k = 0 := h0; omega)
    exact (h1.trans (fr_set (b := t)) (fun k _ h0 => by have : one1 t k + fT k = 0 := h0; omega)).trans (fr_set (b := t)) (fun k _ h0 => by have : one1 t k + fT k = 0 := h0; omega)
end
theorem TakeX_any (t : Nat) (L : List Te) (h p : Nat) (T : BT) (fT : Nat → Nat) (s : ByteArray) (n : Int) (w : World) (H : TreeAt 0 w t L h p T fT) (er : Int) (ls : List Te) (hE : Hid (er = takeEr L ⟨s, n⟩)) (hLs : Hid (ls = takeLs L ⟨s, n⟩)) (X : Nat × BT) (hX : Hid (X = takeX h T L ⟨s, n⟩)) :
    Calls Tryz.prog 20 #[.pointer (some ⟨t, 0, none⟩), .string s, .int .i64 n] w fun e w' => e = .returned (.int .i64 er) ∧ TreeTurnedX X 0 w w' t fT ls := by
  have c0 := H.c0
  have f0 := H.free 0
  have H1 := hid (H.lock 1)
  have lt1 : t < (w.setCell ⟨t, 0, none⟩ (.int .i32 1)).heap.size := by simpa using H.lt
  clear H
  go_enter_defers Tryz.func20, Tryz.ntmps20
  go_wp2_with (go_at_call 41; refine (lock_free muLib ⟨t, 0, none⟩ _ c0 f0).mono ?_; rintro e w' ⟨rfl, rfl⟩)
  clear c0 f0
  generalize hwl : w.setCell ⟨t, 0, none⟩ (.int .i32 1) = wl at *
  replace hwl := hid hwl
  obtain ⟨⟨q0, ht0⟩, tn, nd, sh, l4, l1, fl, sr, ok, le⟩ := H1.out
  have hHas := hid (fun w' (hx : Ext wl w') => has_any h p T fT w' ⟨s, n⟩ (tn.ext hx) sh (by rw [fl]; exact sr) (by omega))
  rw [fl] at hHas
  have hTk := hid (fun w' (hx : Ext wl w') (hm : memT L ⟨s, n⟩ = true) => ntake_any h p T fT w' ⟨s, n⟩ (tn.ext hx) (fun a => by have := nd a; omega) sh l1 (by rw [fl]; exact sr) (by rw [fl]; exact memT_iff.1 hm) l4 _ rfl)
  have hx1 := hid ((Ext.refl wl).alloc_right (.cells #[.string s, .int .i64 n] 83))
  have ha := heap_alloc_new wl (.cells #[.string s, .int .i64 n] 83)
  have z0 : (wl.alloc (.cells #[.string s, .int .i64 n] 83)).cell? ⟨wl.heap.size, 0, none⟩ = some (.string s) := by rw [Lib.cell_of_heap ha]; rfl
  have z1 : (wl.alloc (.cells #[.string s, .int .i64 n] 83)).cell? ⟨wl.heap.size, 1, none⟩ = some (.int .i64 n) := by rw [Lib.cell_of_heap ha]; rfl
  have zt := hx1.out.cell H1.out.c2
  have lt0 := World.block_lt_of_cell? _ _ zt
  dsimp only at lt0
  have hft0 : Hid (fT t = 0) := by have := nd t; rw [one_self] at this; unfold Hid; omega
  have hfb0 : Hid (fT wl.heap.size = 0) := tn.bound _ (Nat.le_refl _)
  have hln := hid le
  replace ht0 := hid ht0
  clear ha tn nd sh l4 l1 fl sr ok le
  go_upto_region 6 with fail
  obtain ⟨b, hb0⟩ : ∃ b, b = w.heap.size := ⟨_, rfl⟩
  have hsz : wl.heap.size = w.heap.size := by rw [← hwl.out]; simp
  rw [hsz, ← hb0] at z0 z1 hfb0
  clear hsz
  simp only [← hb0]
  replace hb0 := hid hb0
  generalize wl.alloc (.cells #[.string s, .int .i64 n] 83) = w1 at *
  go_wp2_with fail
  refine (isEntry_any ⟨s, n⟩ w1).mono ?_
  rintro e' w2 ⟨rfl, hx2⟩
  replace z0 := hx2.cell z0
  replace z1 := hx2.cell z1
  replace zt := hx2.cell zt
  replace hx1 := hid (hx1.out.trans hx2)
  have lt2 := World.block_lt_of_cell? _ _ zt
  dsimp only at lt2
  clear hx2
  have hback := hid (fun w' (hx : Ext wl w') (h1 : ls = L) (h2 : X = (h, T)) => (show TreeTurnedX X 1 wl w' t fT ls by rw [h1, h2]; exact H1.out.sameX hx))
  cases hok : okT ⟨s, n⟩ with
  | false =>
    have hE1 : Hid (er = 1) := by unfold Hid; rw [hE.out]; unfold takeEr; rw [hok]; rfl
    have hL1 : Hid (ls = L) := by unfold Hid; rw [hLs.out]; unfold takeLs; rw [← hE.out, hE1.out]; rfl
    have hX1 : Hid (X = (h, T)) := by unfold Hid; rw [hX.out]; unfold takeX; rw [← hE.out, hE1.out]; rfl
    have hfin := hid (hback.out w2 hx1.out hL1.out hX1.out)
    obtain ⟨k0, kf⟩ : Hid (w2.cell? ⟨t, 0, none⟩ = some (.int .i32 1)) ∧ Hid (w2.frozen? ⟨t, 0, none⟩ = false) := by
      obtain ⟨p', f', H1, -, -⟩ := hfin.out
      exact ⟨H1.c0, H1.free 0⟩
    clear hX hX1 hE hLs hok hHas hTk hback H1 zt z0 z1
    go_wp2
    refine leaves_cons (f := 42) (args := #[.pointer (some ⟨t, 0, none⟩)]) (by simp) (by simp [go_sem]) ?_
    refine (unlock_deferred muLib ⟨t, 0, none⟩ .returning _ k0.out kf.out).mono ?_
    rintro e u' w'' ⟨rfl, rfl, rfl⟩
    exact ⟨_, results_tmp rfl _ _ _, by rw [hE1.out]; rfl, (by have h9 := hfin.out; rw [← hwl.out] at h9; exact h9.unlock)⟩
  | true =>
    go_upto_region 8 with fail
    have I0 : (fun w' : World => w'.cell? ⟨t, 2, none⟩ = some (.pointer (some ⟨p, 0, none⟩)) ∧ w'.cell? ⟨b, 0, none⟩ = some (.string s) ∧ w'.cell? ⟨b, 1, none⟩ = some (.int .i64 n)) w2.drew := ⟨zt, z0, z1⟩
    refine region_J (fun w' : World => w'.cell? ⟨t, 2, none⟩ = some (.pointer (some ⟨p, 0, none⟩)) ∧ w'.cell? ⟨b, 0, none⟩ = some (.string s) ∧ w'.cell? ⟨b, 1, none⟩ = some (.int .i64 n)) 7 (by kernel_rfl) ?_
    replace hx1 := hid (hx1.out.drew_right)
    clear zt z0 z1
    generalize w2.drew = w2 at *
    refine JO 0 (v := ?va0) I0 ?ya0 ?ra0
    case ya0 => (intro w h; obtain ⟨_, _, _⟩ := h; go_simp; with_reducible rfl)
    simp only [Act.put, lyA, lyB, lyC, lyD, lyE, lyF]
    refine JO 1 (v := ?va1) I0 ?ya1 ?ra1
    case ya1 => (intro w h; obtain ⟨_, _, _⟩ := h; go_simp; with_reducible rfl)
    simp only [Act.put, lyA, lyB, lyC, lyD, lyE, lyF]
    refine JO 2 (v := ?va2) I0 ?ya2 ?ra2
    case ya2 => (intro w h; obtain ⟨_, _, _⟩ := h; go_simp; with_reducible rfl)
    simp only [Act.put, lyA, lyB, lyC, lyD, lyE, lyF]
    refine JO 3 (v := ?va3) I0 ?ya3 ?ra3
    case ya3 => (intro w h; obtain ⟨_, _, _⟩ := h; go_simp; with_reducible rfl)
    simp only [Act.put, lyA, lyB, lyC, lyD, lyE, lyF]
    refine JO 4 (v := ?va4) I0 ?ya4 ?ra4
    case ya4 => (intro w h; obtain ⟨_, _, _⟩ := h; go_simp; with_reducible rfl)
    simp only [Act.put, lyA, lyB, lyC, lyD, lyE, lyF]
    refine J_one 5 rfl (by kernel_rfl) (fun K hK => ?_)
    go_simp
    refine (hHas.out w2 hx1.out).mono ?_
    rintro e' w3 ⟨rfl, hx3⟩
    have I3 : (fun w' : World => w'.cell? ⟨t, 2, none⟩ = some (.pointer (some ⟨p, 0, none⟩)) ∧ w'.cell? ⟨b, 0, none⟩ = some (.string s) ∧ w'.cell? ⟨b, 1, none⟩ = some (.int .i64 n)) w3 := ⟨hx3.cell I0.1, hx3.cell I0.2.1, hx3.cell I0.2.2⟩
    replace hx1 := hid (hx1.out.trans hx3)
    clear hx3 I0
    refine hK _ _ ⟨fun _ => I3, ?_⟩
    clear hK K
    try simp only [Act.put, lyA, lyB, lyC, lyD, lyE, lyF]
    refine J_one 6 rfl (by kernel_rfl) (fun K hK => ?_)
    go_simp
    refine hK _ _ ⟨fun _ => I3, ?_⟩
    clear hK K
    try simp only [Act.put, lyD, lyE, lyF]
    refine J_done (by kernel_rfl) (OnlyOn.normal ?_)
    cases hmm : memT L ⟨s, n⟩ with
    | false =>
      have hE1 : Hid (er = 4) := by unfold Hid; rw [hE.out]; unfold takeEr; rw [hok, hmm]; rfl
      have hL1 : Hid (ls = L) := by unfold Hid; rw [hLs.out]; unfold takeLs; rw [← hE.out, hE1.out]; rfl
      have hX1 : Hid (X = (h, T)) := by unfold Hid; rw [hX.out]; unfold takeX; rw [← hE.out, hE1.out]; rfl
      clear hmm
      have hfin := hid (hback.out w3 hx1.out hL1.out hX1.out)
      obtain ⟨k0, kf⟩ : Hid (w3.cell? ⟨t, 0, none⟩ = some (.int .i32 1)) ∧ Hid (w3.frozen? ⟨t, 0, none⟩ = false) := by
        obtain ⟨p', f', H1, -, -⟩ := hfin.out
        exact ⟨H1.c0, H1.free 0⟩
      clear hX hX1 hE hLs hok hHas hTk hback H1 I3
      go_wp2
      refine leaves_cons (f := 42) (args := #[.pointer (some ⟨t, 0, none⟩)]) (by simp) (by simp [go_sem]) ?_
      refine (unlock_deferred muLib ⟨t, 0, none⟩ .returning _ k0.out kf.out).mono ?_
      rintro e u' w'' ⟨rfl, rfl, rfl⟩
      exact ⟨_, results_tmp rfl _ _ _, by rw [hE1.out]; rfl, (by have h9 := hfin.out; rw [← hwl.out] at h9; exact h9.unlock)⟩
    | true =>
      have hE1 : Hid (er = 0) := by unfold Hid; rw [hE.out]; unfold takeEr; rw [hok, hmm]; rfl
      have hL1 : Hid (ls = delT L ⟨s, n⟩) := by unfold Hid; rw [hLs.out]; unfold takeLs; rw [← hE.out, hE1.out]; rfl
      have hxL := hid (memT_iff.1 hmm)
      replace hTk := hid (fun w' hx => hTk.out w' hx hmm)
      obtain ⟨T', hT'⟩ : ∃ T', Hid (T' = takeT h T ⟨s, n⟩) := ⟨_, rfl⟩
      rw [← hT'.out] at hTk
      have hX1 : Hid (X = rootT h T') := by unfold Hid; rw [hX.out]; unfold takeX; rw [← hE.out, hE1.out, ← hT'.out]; rfl
      clear hmm hHas
      go_upto_region 10 with fail
      have I0 : (fun w' : World => w'.cell? ⟨t, 2, none⟩ = some (.pointer (some ⟨p, 0, none⟩)) ∧ w'.cell? ⟨b, 0, none⟩ = some (.string s) ∧ w'.cell? ⟨b, 1, none⟩ = some (.int .i64 n)) w3.drew := I3
      refine region_J (fun w' : World => w'.cell? ⟨t, 2, none⟩ = some (.pointer (some ⟨p, 0, none⟩)) ∧ w'.cell? ⟨b, 0, none⟩ = some (.string s) ∧ w'.cell? ⟨b, 1, none⟩ = some (.int .i64 n)) 6 (by kernel_rfl) ?_
      replace hx1 := hid (hx1.out.drew_right)
      clear I3
      generalize w3.drew = w3 at *
      refine JO 0 (v := ?vb0) I0 ?yb0 ?rb0
      case yb0 => (intro w h; obtain ⟨_, _, _⟩ := h; go_simp; with_reducible rfl)
      simp only [Act.put, lyA, lyB, lyC, lyD, lyE, lyF]
      refine JO 1 (v := ?vb1) I0 ?yb1 ?rb1
      case yb1 => (intro w h; obtain ⟨_, _, _⟩ := h; go_simp; with_reducible rfl)
      simp only [Act.put, lyA, lyB, lyC, lyD, lyE, lyF]
      refine JO 2 (v := ?vb2) I0 ?yb2 ?rb2
      case yb2 => (intro w h; obtain ⟨_, _, _⟩ := h; go_simp; with_reducible rfl)
      simp only [Act.put, lyA, lyB, lyC, lyD, lyE, lyF]
      refine JO 3 (v := ?vb3) I0 ?yb3 ?rb3
      case yb3 => (intro w h; obtain ⟨_, _, _⟩ := h; go_simp; with_reducible rfl)
      simp only [Act.put, lyA, lyB, lyC, lyD, lyE, lyF]
      refine JO 4 (v := ?vb4) I0 ?yb4 ?rb4
      case yb4 => (intro w h; obtain ⟨_, _, _⟩ := h; go_simp; with_reducible rfl)
      simp only [Act.put, lyA, lyB, lyC, lyD, lyE, lyF]
      refine J_one 5 rfl (by kernel_rfl) (fun K hK => ?_)
      go_simp
      refine (hTk.out w3 hx1.out).mono ?_
      rintro e' w4 ⟨rfl, ht⟩
      obtain ⟨f4, tn4, nd4, le4, fr4⟩ := ht
      have hbc : ∀ (j : Addr) (u : Value), fT j.block = 0 → w3.cell? j = some u → w4.cell? j = some u := fun j u hj hu => by
        rw [World.cell?_of_block (fr4.2.2.2.2 j.block (World.block_lt_of_cell? _ _ hu) hj)]
        exact hu
      have I4 : (fun w' : World => w'.cell? ⟨t, 2, none⟩ = some (.pointer (some ⟨p, 0, none⟩)) ∧ w'.cell? ⟨b, 0, none⟩ = some (.string s) ∧ w'.cell? ⟨b, 1, none⟩ = some (.int .i64 n)) w4 := ⟨hbc _ _ hft0.out I0.1, hbc _ _ hfb0.out I0.2.1, hbc _ _ hfb0.out I0.2.2⟩
      have ht4 : Hid (w4.heap[t]? = some (.cells #[.int .i32 1, .int .u32 q0, .pointer (some ⟨p, 0, none⟩), .int .i64 L.length] 64 (0, 0))) := by
        have h0 := (hx1.out.block (Array.getElem?_eq_some_iff.1 ht0.out).1).trans ht0.out
        exact (fr4.2.2.2.2 t (Array.getElem?_eq_some_iff.1 h0).1 hft0.out).trans h0
      replace tn4 := hid tn4
      replace nd4 := hid nd4
      replace le4 : Hid (∀ a, a < wl.heap.size → f4 a ≤ fT a) := fun a ha => le4 a (Nat.lt_of_lt_of_le ha hx1.out.size)
      replace fr4 : Hid (FR fT wl w4) := (FR.of_ext hx1.out).trans fr4 (fun _ _ h => h)
      clear hbc I0 hTk hx1 ht0
      refine hK _ _ ⟨fun _ => I4, ?_⟩
      clear hK K
      try simp only [Act.put, lyA, lyB, lyC, lyD, lyE, lyF]
      refine J_done (by kernel_rfl) (OnlyOn.normal ?_)
      have hdl := hid (len_del hxL.out)
      have c2 : w4.cell? ⟨t, 2, none⟩ = some (.pointer (some ⟨p, 0, none⟩)) := by rw [Lib.cell_of_heap ht4.out]; rfl
      have c3 : w4.cell? ⟨t, 3, none⟩ = some (.int .i64 L.length) := by rw [Lib.cell_of_heap ht4.out]; rfl
      have fz3 := Lib.frozen_of_heap ht4.out 3
      have lt4 := (Array.getElem?_eq_some_iff.1 ht4.out).1
      have hw1 : IntKind.i64.wrap ((L.length : Int) - 1) = ((delT L ⟨s, n⟩).length : Int) := by have := hln.out; have := hdl.out; rw [IntWalk.i64_in _ (by omega)]; omega
      have hw2 : ((L.length : Int) - 1) = ((delT L ⟨s, n⟩).length : Int) := by have := hdl.out; omega
      have hbl : Hid (L.length ≤ 10000) := hln.out
      have hL0 : (L.length : Int) ≤ 10000 := by have := hln.out; omega
      obtain ⟨l', ks'⟩ := T'
      obtain ⟨A, c, kA, kn, kc, d0, d1, hrd, hk0⟩ := tn4.out.cells
      have hmr := Rd.max hrd
      have lp4 := World.block_lt_of_cell? _ _ d0
      dsimp only at lp4
      clear I4 hrd
      by_cases hl0 : 1 ≤ l'.length
      · have hne : ((l'.length : Int) == 0) = false := by rw [beq_eq_false_iff_ne]; omega
        have hfin9 := hid (take_stay H1.out hxL.out hT'.out tn4.out nd4.out le4.out fr4.out q0 ht4.out (.inr hl0))
        have hfin := hid ((show TreeTurnedX X 1 wl (w4.setCell ⟨t, 3, none⟩ (.int .i64 (delT L ⟨s, n⟩).length)) t fT ls by rw [hL1.out, hX1.out, root_stay (T := .nd l' ks') (.inr hl0)]; exact hfin9.out))
        obtain ⟨k0, kf⟩ : Hid ((w4.setCell ⟨t, 3, none⟩ (.int .i64 (delT L ⟨s, n⟩).length)).cell? ⟨t, 0, none⟩ = some (.int .i32 1)) ∧ Hid ((w4.setCell ⟨t, 3, none⟩ (.int .i64 (delT L ⟨s, n⟩).length)).frozen? ⟨t, 0, none⟩ = false) := by
          obtain ⟨p', f', H1, -, -⟩ := hfin.out
          exact ⟨H1.c0, H1.free 0⟩
        clear hE hLs hok hback hfin9 hX hX1 tn4 nd4 le4 fr4 ht4 hT'
        go_wp2
        refine leaves_cons (f := 42) (args := #[.pointer (some ⟨t, 0, none⟩)]) (by simp) (by simp [go_sem]) ?_
        refine (unlock_deferred muLib ⟨t, 0, none⟩ .returning _ k0.out kf.out).mono ?_
        rintro e u' w'' ⟨rfl, rfl, rfl⟩
        exact ⟨_, results_tmp rfl _ _ _, by rw [hE1.out]; rfl, (by have h9 := hfin.out; rw [← hwl.out] at h9; exact h9.unlock)⟩
      · obtain rfl : l' = [] := List.eq_nil_of_length_eq_zero (by omega)
        cases h with
        | zero =>
          obtain rfl := hk0 rfl
          have hfin9 := hid (take_stay H1.out hxL.out hT'.out tn4.out nd4.out le4.out fr4.out q0 ht4.out (.inl rfl))
          have hfin := hid ((show TreeTurnedX X 1 wl (w4.setCell ⟨t, 3, none⟩ (.int .i64 (delT L ⟨s, n⟩).length)) t fT ls by rw [hL1.out, hX1.out, root_stay (.inl rfl)]; exact hfin9.out))
          obtain ⟨k0, kf⟩ : Hid ((w4.setCell ⟨t, 3, none⟩ (.int .i64 (delT L ⟨s, n⟩).length)).cell? ⟨t, 0, none⟩ = some (.int .i32 1)) ∧ Hid ((w4.setCell ⟨t, 3, none⟩ (.int .i64 (delT L ⟨s, n⟩).length)).frozen? ⟨t, 0, none⟩ = false) := by
            obtain ⟨p', f', H1, -, -⟩ := hfin.out
            exact ⟨H1.c0, H1.free 0⟩
          clear hE hLs hok hback hfin9 hX hX1 tn4 nd4 le4 fr4 ht4 hT'
          go_wp2
          refine leaves_cons (f := 42) (args := #[.pointer (some ⟨t, 0, none⟩)]) (by simp) (by simp [go_sem]) ?_
          refine (unlock_deferred muLib ⟨t, 0, none⟩ .returning _ k0.out kf.out).mono ?_
          rintro e u' w'' ⟨rfl, rfl, rfl⟩
          exact ⟨_, results_tmp rfl _ _ _, by rw [hE1.out]; rfl, (by have h9 := hfin.out; rw [← hwl.out] at h9; exact h9.unlock)⟩
        | succ h0 =>
          obtain ⟨lv, kv, ps, g, e1, e2, e3, e5, e4⟩ := tn4.out
          have hsh := take_ok (h0 + 1) T ⟨s, n⟩ H1.out.sh H1.out.l1 (by rw [H1.out.fl]; exact H1.out.sr) (by rw [H1.out.fl]; exact hxL.out)
          rw [← hT'.out] at hsh
          have hks1 : ks'.length = 1 := hsh.1.1
          have hpl := e5.len
          obtain ⟨r, g0, g1, g2, hpi, hKq, -, -, hg⟩ := Ks.cut e5 (kth_some (show 0 < ks'.length by omega))
          obtain ⟨kA2, kc2, rfl, hkr⟩ := own_rd e3
          obtain ⟨kad, rfl, -⟩ := hkr.2.2.2 (by omega)
          have d1' := node_c1 e1
          clear d1 hk0
          have d2 := own_ptr0 e3 hpi
          have hk1 : (0 : Int) < (ps.length : Int) := by omega
          have hk2 : 0 < ps.length := by omega
          have hfin9 := hid (take_sink (r := r) H1.out hxL.out hT'.out hKq (fun a => by rw [e4 a, hg a]; omega) nd4.out le4.out fr4.out q0 ht4.out)
          have fz2 := Lib.frozen_of_heap ht4.out 2
          have c4 : (w4.setCell ⟨t, 2, none⟩ (.pointer (some ⟨r, 0, none⟩))).cell? ⟨t, 3, none⟩ = some (.int .i64 L.length) := set_keep c3 (off_ne (by decide))
          have fz4 : (w4.setCell ⟨t, 2, none⟩ (.pointer (some ⟨r, 0, none⟩))).frozen? ⟨t, 3, none⟩ = false := (World.frozen?_setCell _ _ _ _).trans fz3
          clear e1 e2 e3 e4 e5 hkr hpl hks1 hsh hpi hKq hg
          have hfin := hid ((show TreeTurnedX X 1 wl ((w4.setCell ⟨t, 2, none⟩ (.pointer (some ⟨r, 0, none⟩))).setCell ⟨t, 3, none⟩ (.int .i64 (delT L ⟨s, n⟩).length)) t fT ls by rw [hL1.out, hX1.out, show rootT (h0 + 1) (BT.nd [] ks') = (h0, kth ks' 0) by rw [rootT, if_pos rfl]]; exact hfin9.out))
          obtain ⟨k0, kf⟩ : Hid (((w4.setCell ⟨t, 2, none⟩ (.pointer (some ⟨r, 0, none⟩))).setCell ⟨t, 3, none⟩ (.int .i64 (delT L ⟨s, n⟩).length)).cell? ⟨t, 0, none⟩ = some (.int .i32 1)) ∧ Hid (((w4.setCell ⟨t, 2, none⟩ (.pointer (some ⟨r, 0, none⟩))).setCell ⟨t, 3, none⟩ (.int .i64 (delT L ⟨s, n⟩).length)).frozen? ⟨t, 0, none⟩ = false) := by
            obtain ⟨p', f', H1, -, -⟩ := hfin.out
            exact ⟨H1.c0, H1.free 0⟩
          clear hE hLs hok hback hfin9 hX hX1 tn4 nd4 le4 fr4 ht4 hT'
          go_wp2
          refine leaves_cons (f := 42) (args := #[.pointer (some ⟨t, 0, none⟩)]) (by simp) (by simp [go_sem]) ?_
          refine (unlock_deferred muLib ⟨t, 0, none⟩ .returning _ k0.out kf.out).mono ?_
          rintro e u' w'' ⟨rfl, rfl, rfl⟩
          exact ⟨_, results_tmp rfl _ _ _, by rw [hE1.out]; rfl, (by have h9 := hfin.out; rw [← hwl.out] at h9; exact h9.unlock)⟩
end Go.Proofs.YtpijfiaecicpfaaGreat
