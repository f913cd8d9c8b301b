/-
  last: the last entry is taken out of a node.
-/
import Derived.Test.YtpijfiaecicpfaaEf
import Derived.Test.YtpijfiaecicpfaaBb
namespace Go.Proofs.Ytpijfiaecicpfaa
open Go.RowKit Go.Shelf
set_option linter.unusedVariables false
set_option linter.unusedSimpArgs false
theorem Turned.seq {W0 W1 W2 : World} {h p : Nat} {f f1 : Nat → Nat} {T' : BT} (hle : ∀ a, a < W0.heap.size → f1 a ≤ f a) (hF : FR f W0 W1) (ht : Turned W1 W2 h p f1 T') : Turned W0 W2 h p f T' := by
  obtain ⟨f', t1, t2, t3, t4⟩ := ht
  have hsz := hF.2.2.2.1
  exact ⟨f', t1, t2, fun a ha => Nat.le_trans (t3 a (Nat.lt_of_lt_of_le ha hsz)) (hle a ha), hF.trans t4 (fun k hk h0 => by have := hle k hk; omega)⟩
/-- What is stored into a new block does not touch the tree. -/
theorem Turned.ret2 {w W0 W : World} {h p b : Nat} {f : Nat → Nat} {T' : BT} (hx : Ext w W0) (ht : Turned W0 W h p f T') (hb : w.heap.size ≤ b) (hb2 : b < W0.heap.size) (h0 : f b = 0) (u v : Value) : Turned w ((W.setCell ⟨b, 0, none⟩ u).setCell ⟨b, 1, none⟩ v) h p f T' := by
  obtain ⟨f', t1, t2, t3, t4⟩ := ht
  have hb0 : f' b = 0 := by have := t3 b hb2; omega
  have hsz := hx.size
  refine ⟨f', (t1.setc hb0).setc hb0, t2, fun a ha => t3 a (Nat.lt_of_lt_of_le ha hsz), ?_⟩
  have h1 : FR f w W := (FR.of_ext (f := f) hx).trans t4 (fun _ _ h => h)
  have hz : ∀ k, k < w.heap.size → f k = 0 → one1 b k = 0 := fun k hk _ => if_neg (by omega)
  exact (h1.trans fr_set hz).trans fr_set hz
theorem leaf_cut {w W : World} {p m : Nat} {l : List Te} {A : Option Addr} {c : Nat} {kv : Value} {f : Nat → Nat} (hx : Ext w W) (e1 : W.heap[p]? = some (.cells #[.slice A l.length c, kv] 105 (0, 0))) (e2 : W.ownsRow 0 71 2 (.slice A l.length c) l.length (tents l)) (e3 : W.ownsRow 0 81 1 kv 0 (ptrs [])) (e4 : ∀ a, f a = one1 p a + ob (.slice A l.length c) a + ob kv a) (hn : ∀ a, f a ≤ 1) (hm : m ≤ l.length) :
    Turned w (W.setCell ⟨p, 0, none⟩ (.slice A m c)) 0 p f (.nd (l.take m) []) := by
  have o1 := own_cut e2 hm
  rw [tents_take] at o1
  exact leaf_put (l' := l.take m) hx e1 e2 e3 e4 hn ⟨World.grownBy.refl _ _, .inl (own_same (n := l.length) rfl)⟩ (by rw [List.length_take, Nat.min_eq_left hm]; exact o1)
theorem kid_shut {w' : World} {h p q i : Nat} {l : List Te} {ks : List BT} {ps : List Nat} {lv kv : Value} {g0 g1' g2 : Nat → Nat} {K' : BT} (t1 : TN w' h q K' g1') (t2 : w'.heap[p]? = some (.cells #[lv, kv] 105 (0, 0))) (t3 : w'.ownsRow 0 71 2 lv l.length (tents l)) (t4 : w'.ownsRow 0 81 1 kv ps.length (ptrs ps)) (t5 : Ks (TN w' h) (ps.take i) (ks.take i) g0) (t6 : Ks (TN w' h) (ps.drop (i + 1)) (ks.drop (i + 1)) g2) (hpi : ps[i]? = some q) (hi : i < ks.length) :
    TN w' (h + 1) p (.nd l (ks.set i K')) (fun a => one1 p a + ob lv a + ob kv a + (g0 a + g1' a + g2 a)) := by
  refine TN.shut t2 t3 t4 (show Kd w' (h + 1) ps (ks.set i K') (fun a => g0 a + g1' a + g2 a) from ?_) (fun _ => rfl)
  have hks := set_cut (l := ks) (i := i) hi K'
  have hps : ps = ps.take i ++ q :: ps.drop (i + 1) := by
    have := list_cut (l := ps) (i := i) (List.getElem?_eq_some_iff.1 hpi).1
    rw [(List.getElem?_eq_some_iff.1 hpi).2] at this
    exact this
  rw [hks]
  have hm := Ks.mid t5 t1 t6
  rw [← hps] at hm
  exact hm
set_option maxRecDepth 100000 in
set_option maxHeartbeats 4000000 in
theorem last_any : ∀ (h p : Nat) (T : BT) (f : Nat → Nat) (w : World), TN w h p T f → (∀ a, f a ≤ 1) → Shp h T → 1 ≤ T.l.length → T.l.length ≤ 4 → ∀ (T' : BT) (x : Te), Hid ((T', x) = lastT h T) →
    Calls Try.prog 98 #[.pointer (some ⟨p, 0, none⟩)] w fun e w' => e = .returned (.agg #[.string x.key, .int .i64 x.no]) ∧ Turned w w' h p f T' := by
  intro h
  induction h with
  | zero =>
    intro p T f w hT hn hs h1 h4 T' x hx
    obtain ⟨l, ks⟩ := T
    have hfb : Hid (f w.heap.size = 0) := hT.bound _ (Nat.le_refl _)
    obtain ⟨rfl, lv, kv, e1, e2, e3, e4⟩ := hT
    obtain ⟨A, c, rfl, hr⟩ := own_rd e2
    obtain ⟨kA, kc, rfl, -⟩ := own_rd e3
    have hl1 : 1 ≤ l.length := h1
    have hl4 : l.length ≤ 4 := h4
    obtain ⟨m, hm⟩ : ∃ m, l.length = m + 1 := ⟨l.length - 1, by omega⟩
    have hmx := Rd.max hr
    have hx0 := hid ((Ext.refl w).alloc_right (.cells #[.string ⟨#[]⟩, .int .i64 0] 71))
    have ha := heap_alloc_new w (.cells #[.string ⟨#[]⟩, .int .i64 0] 71)
    obtain ⟨rfl, rfl⟩ : T' = .nd (l.take m) [] ∧ x = tth l m := by
      have := hx.out
      unfold lastT at this
      rw [hm, Nat.add_sub_cancel] at this
      exact ⟨congrArg Prod.fst this, congrArg Prod.snd this⟩
    obtain ⟨ad, rfl, z0, z1⟩ := RdN.at_ hr (show m < l.length by omega)
    have hE : Hid (∀ W : World, Ext (w.alloc (.cells #[.string ⟨#[]⟩, .int .i64 0] 71)) W → Turned (w.alloc (.cells #[.string ⟨#[]⟩, .int .i64 0] 71)) (W.setCell ⟨p, 0, none⟩ (.slice (some ad) m c)) 0 p f (.nd (l.take m) [])) := fun W hW =>
      leaf_cut hW ((hW.block (by have := (Array.getElem?_eq_some_iff.1 e1).1; simp; omega)).trans ((hx0.out.block (Array.getElem?_eq_some_iff.1 e1).1).trans e1)) (hW.own (hx0.out.own e2)) (hW.own (hx0.out.own e3)) e4 hn (by omega)
    replace z0 := hx0.out.cell z0
    replace z1 := hx0.out.cell z1
    have c0 := hx0.out.cell (node_c0 e1)
    have c1 := hx0.out.cell (node_c1 e1)
    have lp := (Array.getElem?_eq_some_iff.1 e1).1
    have lp0 := World.block_lt_of_cell? _ _ c0
    dsimp only at lp0
    have hw1 : IntKind.i64.wrap ((l.length : Int) - 1) = (m : Int) := by rw [IntWalk.i64_in _ (by omega)]; omega
    have hw2 : ((l.length : Int) - 1) = (m : Int) := by omega
    have hw3 : (m : Int) < (l.length : Int) := by omega
    have hw4 : m ≤ c := by omega
    have hx9 := hid (fun (v : Value) (h : v = v) => (Ext.refl (w.alloc (.cells #[.string ⟨#[]⟩, .int .i64 0] 71))).alloc_right (.cells #[.string (tth l m).key, .int .i64 (tth l m).no] 71))
    have hf0 : (w.alloc (.cells #[.string ⟨#[]⟩, .int .i64 0] 71)).frozen? ⟨p, 0, none⟩ = false := Lib.frozen_of_heap ((hx0.out.block lp).trans e1) 0
    replace hm := hid hm
    clear hr e1 e2 e3 hx hs
    go_enter Try.func98, Try.ntmps98
    go_upto_region 1 with fail
    obtain ⟨b, hb⟩ : ∃ b, b = w.heap.size := ⟨_, rfl⟩
    rw [← hb] at ha hfb
    simp only [← hb]
    have lb := (Array.getElem?_eq_some_iff.1 ha).1
    have hbw : Hid (w.heap.size ≤ b) := by unfold Hid; omega
    replace hb := hid hb
    generalize w.alloc (.cells #[.string ⟨#[]⟩, .int .i64 0] 71) = W0 at *
    go_upto_region 4 with fail
    obtain ⟨d, hd⟩ : ∃ d, d = W0.heap.size := ⟨_, rfl⟩
    simp only [← hd]
    have hxd := (Ext.refl W0).alloc_right (.cells #[.string (tth l m).key, .int .i64 (tth l m).no] 71)
    have had := heap_alloc_new W0 (.cells #[.string (tth l m).key, .int .i64 (tth l m).no] 71)
    rw [← hd] at had
    have hT1 := hE.out _ hxd
    replace c0 := hxd.cell c0
    have hf1 : (W0.alloc (.cells #[.string (tth l m).key, .int .i64 (tth l m).no] 71)).frozen? ⟨p, 0, none⟩ = false := (hxd.frozen lp0).trans hf0
    replace ha := (hxd.block lb).trans ha
    have lpd := World.block_lt_of_cell? _ _ c0
    dsimp only at lpd
    have hdp : p ≠ d := by omega
    have hdb : b ≠ d := by omega
    have hbp : p ≠ b := fun e => by have := hfb.out; rw [← e, e4 p, one_self] at this; omega
    replace hd := hid hd
    clear c1 z0 z1 hxd hE hx9
    generalize W0.alloc (.cells #[.string (tth l m).key, .int .i64 (tth l m).no] 71) = W1 at *
    have g0 := heap_set_other had hdp 0 (.slice (some ad) m c)
    have g1 := heap_set_other ha hbp 0 (.slice (some ad) m c)
    go_upto_region 5 with fail
    clear c0 hf1 had
    replace hT1 := hid hT1
    replace ha := hid ha
    generalize W1.setCell ⟨p, 0, none⟩ (.slice (some ad) m c) = W2 at *
    have y0 : W2.cell? ⟨d, 0, none⟩ = some (.string (tth l m).key) := by rw [Lib.cell_of_heap g0]; rfl
    have y1 : W2.cell? ⟨d, 1, none⟩ = some (.int .i64 (tth l m).no) := by rw [Lib.cell_of_heap g0]; rfl
    have x0 : W2.cell? ⟨b, 0, none⟩ = some (.string ⟨#[]⟩) := by rw [Lib.cell_of_heap g1]; rfl
    have x1 : (W2.setCell ⟨b, 0, none⟩ (.string (tth l m).key)).cell? ⟨b, 1, none⟩ = some (.int .i64 0) := set_keep (by rw [Lib.cell_of_heap g1]; rfl) (off_ne (by decide))
    have f0 := Lib.frozen_of_heap g1 0
    have f1 : (W2.setCell ⟨b, 0, none⟩ (.string (tth l m).key)).frozen? ⟨b, 1, none⟩ = false := (World.frozen?_setCell _ _ _ _).trans (Lib.frozen_of_heap g1 1)
    have q0 : ((W2.setCell ⟨b, 0, none⟩ (.string (tth l m).key)).setCell ⟨b, 1, none⟩ (.int .i64 (tth l m).no)).cell? ⟨b, 0, none⟩ = some (.string (tth l m).key) := set_keep (set_get x0) (off_ne (by decide))
    have q1 : ((W2.setCell ⟨b, 0, none⟩ (.string (tth l m).key)).setCell ⟨b, 1, none⟩ (.int .i64 (tth l m).no)).cell? ⟨b, 1, none⟩ = some (.int .i64 (tth l m).no) := set_get x1
    have hfin := hid (Turned.ret2 (b := b) hx0.out hT1.out hbw.out lb hfb.out (.string (tth l m).key) (.int .i64 (tth l m).no))
    clear g0 g1 hT1
    go_wp2
    clear x0 x1 f0 f1 y0 y1
    generalize (W2.setCell ⟨b, 0, none⟩ (.string (tth l m).key)).setCell ⟨b, 1, none⟩ (.int .i64 (tth l m).no) = W3 at *
    exact bodyPost_ret (v := .agg #[.string (tth l m).key, .int .i64 (tth l m).no]) (by simp [results, Try.results98, go_sem, q0, q1]) rfl ⟨rfl, hfin.out⟩
  | succ h ih =>
    intro p T f w hT hn hs h1 h4 T' x hx
    obtain ⟨l, ks⟩ := T
    have hfm : Hid (∀ a, w.heap.size ≤ a → f a = 0) := hT.bound
    obtain ⟨lv, kv, ps, g, e1, e2, e3, e5, e4⟩ := hT
    have hl1 : 1 ≤ l.length := h1
    have hl4 : l.length ≤ 4 := h4
    have hkl : ks.length = l.length + 1 := hs.1
    have hpl := e5.len
    obtain ⟨m, hm⟩ : ∃ m, l.length = m + 1 := ⟨l.length - 1, by omega⟩
    obtain ⟨s1, s2, s3⟩ := kid_ok hs (Nat.le_refl l.length)
    obtain ⟨q, g0, g1, g2, hpi, hKq, k0, k2, hg⟩ := Ks.cut e5 (kth_some (show l.length < ks.length by omega))
    have hlo := last_ok h (kth ks l.length) s3 (by omega)
    obtain ⟨K', x', hK'⟩ : ∃ K' x', Hid ((K', x') = lastT h (kth ks l.length)) := ⟨_, _, rfl⟩
    rw [← hK'.out] at hlo
    dsimp only at hlo
    obtain ⟨rfl, rfl⟩ : T' = fillT l (ks.set l.length K') l.length ∧ x = x' := by
      have := hx.out
      unfold lastT at this
      rw [← hK'.out] at this
      exact ⟨congrArg Prod.fst this, congrArg Prod.snd this⟩
    have hnear := hid (near_set (l' := l) hs rfl hl1 (Nat.le_refl l.length) (J := K') ⟨by have := hlo.2.2.1; show 1 ≤ K'.l.length; exact (by omega : 1 ≤ K'.l.length), by have := hlo.2.2.2; show K'.l.length ≤ 4; exact (by omega : K'.l.length ≤ 4), hlo.1⟩)
    have hn1 : ∀ a, g1 a ≤ 1 := fun a => by have := hn a; rw [e4 a, hg a] at this; omega
    have hx0 := hid ((Ext.refl w).alloc_right (.cells #[.string ⟨#[]⟩, .int .i64 0] 71))
    have ha := heap_alloc_new w (.cells #[.string ⟨#[]⟩, .int .i64 0] 71)
    have ih' := hid (ih q (kth ks l.length) g1 (w.alloc (.cells #[.string ⟨#[]⟩, .int .i64 0] 71)) (hKq.ext hx0.out) hn1 s3 (by omega) s2 K' x hK')
    obtain ⟨A, c, rfl, hr⟩ := own_rd e2
    obtain ⟨kA, kc, rfl, hkr⟩ := own_rd e3
    obtain ⟨kad, rfl, -⟩ := hkr.2.2.2 (by omega)
    have hmx := Rd.max hr
    have hkmx := Rd.max hkr
    have c0 := hx0.out.cell (node_c0 e1)
    have c1 := hx0.out.cell (node_c1 e1)
    have cq := hx0.out.cell (rd_ptr hkr hpi)
    have lp := (Array.getElem?_eq_some_iff.1 e1).1
    have lp0 := World.block_lt_of_cell? _ _ c0
    dsimp only at lp0
    have hw1 : IntKind.i64.wrap ((l.length : Int) - 1) = (m : Int) := by rw [IntWalk.i64_in _ (by omega)]; omega
    have hw2 : ((l.length : Int) - 1) = (m : Int) := by omega
    have hw3 : IntKind.i64.wrap ((m : Int) + 1) = (l.length : Int) := by rw [IntWalk.i64_in _ (by omega)]; omega
    have hw4 : ((m : Int) + 1) = (l.length : Int) := by omega
    have hw5 : (l.length : Int) < (ps.length : Int) := by omega
    have hw6 : ((ps.length : Int) == 0) = false := by rw [beq_eq_false_iff_ne]; omega
    have hlps : l.length < ps.length := by omega
    have hlk : Hid (l.length < ks.length) := by unfold Hid; omega
    replace e1 := (hx0.out.block lp).trans e1
    replace e2 := hx0.out.own e2
    replace e3 := hx0.out.own e3
    replace k0 := Ks.frame (fun _ _ _ h1 (h2 : ∀ a, _ → (fun _ => 0) a = 0) => TN.ext h1 hx0.out) k0 (fun _ _ => rfl)
    replace k2 := Ks.frame (fun _ _ _ h1 (h2 : ∀ a, _ → (fun _ => 0) a = 0) => TN.ext h1 hx0.out) k2 (fun _ _ => rfl)
    replace e1 := hid e1
    replace e2 := hid e2
    replace e3 := hid e3
    replace k0 := hid k0
    replace k2 := hid k2
    replace hm := hid hm
    replace hpi := hid hpi
    replace hg := hid hg
    replace e4 := hid e4
    replace hn := hid hn
    replace hkl := hid hkl
    replace hpl := hid hpl
    clear hr hkr hx hs e5 hKq hlo s1 s2 s3 hn1 h1 h4
    go_enter Try.func98, Try.ntmps98
    go_upto_region 1 with fail
    obtain ⟨b, hb⟩ : ∃ b, b = w.heap.size := ⟨_, rfl⟩
    rw [← hb] at ha
    simp only [← hb]
    have lb := (Array.getElem?_eq_some_iff.1 ha).1
    have hbw : Hid (w.heap.size ≤ b) := by unfold Hid; omega
    have hfb : Hid (f b = 0) := hfm.out b (by omega)
    have hsz0 := hx0.out.size
    replace hb := hid hb
    generalize w.alloc (.cells #[.string ⟨#[]⟩, .int .i64 0] 71) = W0 at *
    go_wp2_with fail
    refine ih'.out.mono ?_
    rintro e' W1 ⟨rfl, ht⟩
    obtain ⟨g1', t1, t2, t3, t4, t5, t6, t7, t8, t9⟩ := kid_turned (f := f) e1.out e2.out e3.out hpi.out (kth_some hlk.out) k0.out k2.out (fun a => by rw [e4.out a, hg.out a]) hn.out (fun a ha => hfm.out a (Nat.le_trans hsz0 ha)) ht
    have hTN := hid (kid_shut t1 t2 t3 t4 t5 t6 hpi.out hlk.out)
    have hb1 := (t9.2.2.2.2 b lb hfb.out).trans ha
    replace t7 := hid t7
    replace t8 := hid t8
    replace t9 := hid t9
    have hxd := (Ext.refl W1).alloc_right (.cells #[.string x.key, .int .i64 x.no] 71)
    have had := heap_alloc_new W1 (.cells #[.string x.key, .int .i64 x.no] 71)
    have hfd := hTN.out.bound W1.heap.size (Nat.le_refl _)
    have hfill := hid (fill_any h p l.length l (ks.set l.length K') _ _ (hTN.out.ext hxd) t7.out hnear.out hl4)
    have hb2 := (hxd.block (Array.getElem?_eq_some_iff.1 hb1).1).trans hb1
    have hsz1 := hxd.size
    have t9' : Hid (FR f W0 (W1.alloc (.cells #[.string x.key, .int .i64 x.no] 71))) := t9.out.trans (FR.of_ext (f := f) hxd) (fun _ _ h => h)
    have lb1 := (Array.getElem?_eq_some_iff.1 hb1).1
    clear ih' ht t1 t2 t3 t4 t5 t6 c0 c1 cq hxd ha hb1
    go_wp2_with fail
    obtain ⟨d, hd⟩ : ∃ d, d = W1.heap.size := ⟨_, rfl⟩
    rw [← hd] at had hfd lb1
    simp only [← hd]
    replace hd := hid hd
    generalize W1.alloc (.cells #[.string x.key, .int .i64 x.no] 71) = W2 at *
    refine hfill.out.mono ?_
    rintro e' W3 ⟨rfl, ht⟩
    have hT3 := hid (Turned.seq t8.out t9'.out ht)
    obtain ⟨f3, r1, r2, r3, r4⟩ := ht
    have hb3 := (r4.2.2.2.2 b (Array.getElem?_eq_some_iff.1 hb2).1 (by have := t8.out b lb; have := hfb.out; show one1 p b + _ + _ + _ = 0; omega)).trans hb2
    have had3 := (r4.2.2.2.2 d (Array.getElem?_eq_some_iff.1 had).1 hfd).trans had
    clear hfill r1 r2 r3 r4 had hb2
    have y0 : W3.cell? ⟨d, 0, none⟩ = some (.string x.key) := by rw [Lib.cell_of_heap had3]; rfl
    have y1 : W3.cell? ⟨d, 1, none⟩ = some (.int .i64 x.no) := by rw [Lib.cell_of_heap had3]; rfl
    have x0 : W3.cell? ⟨b, 0, none⟩ = some (.string ⟨#[]⟩) := by rw [Lib.cell_of_heap hb3]; rfl
    have x1 : (W3.setCell ⟨b, 0, none⟩ (.string x.key)).cell? ⟨b, 1, none⟩ = some (.int .i64 0) := set_keep (by rw [Lib.cell_of_heap hb3]; rfl) (off_ne (by decide))
    have f0 := Lib.frozen_of_heap hb3 0
    have f1 : (W3.setCell ⟨b, 0, none⟩ (.string x.key)).frozen? ⟨b, 1, none⟩ = false := (World.frozen?_setCell _ _ _ _).trans (Lib.frozen_of_heap hb3 1)
    have q0 : ((W3.setCell ⟨b, 0, none⟩ (.string x.key)).setCell ⟨b, 1, none⟩ (.int .i64 x.no)).cell? ⟨b, 0, none⟩ = some (.string x.key) := set_keep (set_get x0) (off_ne (by decide))
    have q1 : ((W3.setCell ⟨b, 0, none⟩ (.string x.key)).setCell ⟨b, 1, none⟩ (.int .i64 x.no)).cell? ⟨b, 1, none⟩ = some (.int .i64 x.no) := set_get x1
    have hfin := hid (Turned.ret2 (b := b) hx0.out hT3.out hbw.out lb hfb.out (.string x.key) (.int .i64 x.no))
    clear hT3 had3 hb3 hfd hTN t7 t8 t9 t9'
    go_wp2
    clear x0 x1 f0 f1 y0 y1
    generalize (W3.setCell ⟨b, 0, none⟩ (.string x.key)).setCell ⟨b, 1, none⟩ (.int .i64 x.no) = W4 at *
    exact bodyPost_ret (v := .agg #[.string x.key, .int .i64 x.no]) (by simp [results, Try.results98, go_sem, q0, q1]) rfl ⟨rfl, hfin.out⟩
end Go.Proofs.Ytpijfiaecicpfaa
