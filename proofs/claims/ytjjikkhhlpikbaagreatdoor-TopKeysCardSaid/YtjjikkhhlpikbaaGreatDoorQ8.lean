/-
  All entries of a tree, in order; New, Put, all entries of an index, Len; Taking an entry out of a node; Taking an entry out of an index; sort.Search; the place of an entry, of a key; Rank.
-/
import Derived.Test.YtjjikkhhlpikbaaGreatDoorQ7
import Derived.Test.YtjjikkhhlpikbaaGreatDoorQ5
import Derived.Test.YtjjikkhhlpikbaaGreatDoorQ2
set_option maxRecDepth 100000
set_option maxHeartbeats 40000000
set_option linter.unusedVariables false
set_option linter.unusedSimpArgs false
namespace Go.Proofs.YtjjikkhhlpikbaaGreatDoor
open Go.RowKit Go.Shelf
theorem kid_row {W1 W2 : World} {h p q i : Nat} {l' : List Te} {ks : List BT} {ps : List Nat} {lv kv : Value} {g0 g1' g2 : Nat → Nat} {K' : BT} (t1 : TN W1 h q K' g1') (t2 : W1.heap[p]? = some (.cells #[lv, kv] 48 (0, 0))) (t4 : W1.ownsRow 0 44 1 kv ps.length (ptrs ps)) (t5 : Ks (TN W1 h) (ps.take i) (ks.take i) g0) (t6 : Ks (TN W1 h) (ps.drop (i + 1)) (ks.drop (i + 1)) g2) (t7 : ∀ a, one1 p a + ob lv a + ob kv a + (g0 a + g1' a + g2 a) ≤ 1) (hpi : ps[i]? = some q) (hi : i < ks.length)
    (hg : W1.grownBy W2 lv.ownBlock) (ho : W2.ownsRow 0 65 2 lv l'.length (tents l')) :
    TN W2 (h + 1) p (.nd l' (ks.set i K')) (fun a => one1 p a + ob lv a + ob kv a + (g0 a + g1' a + g2 a)) ∧ FR (ob lv) W1 W2 := by
  have hF : FR (ob lv) W1 W2 := fr_grow (FR.of_ext (Ext.refl W1)) hg (fun k e _ h0 => by rw [ob_some e] at h0; cases h0)
  have z : ∀ a, 0 < one1 p a + ob kv a + (g0 a + g1' a + g2 a) → ob lv a = 0 := fun a ha => by have := t7 a; omega
  refine ⟨kid_shut (t1.frame hF (fun a ha => z a (by omega))) ((hF.2.2.2.2 p (Array.getElem?_eq_some_iff.1 t2).1 (z p (by rw [one_self]; omega))).trans t2) ho (hF.own t4 (fun k e => z k (by rw [ob_some e]; omega))) (Ks.frame (fun _ _ _ h1 h2 => TN.frame hF h1 h2) t5 (fun a ha => z a (by omega))) (Ks.frame (fun _ _ _ h1 h2 => TN.frame hF h1 h2) t6 (fun a ha => z a (by omega))) hpi hi, hF⟩
theorem ntake_any : ∀ (h p : Nat) (T : BT) (f : Nat → Nat) (w : World) (e : Te), TN w h p T f → (∀ a, f a ≤ 1) → Shp h T → (h ≠ 0 → 1 ≤ T.l.length) → Srt (flat h T) → e ∈ flat h T → T.l.length ≤ 4 → ∀ T' : BT, Hid (T' = takeT h T e) →
    Calls Tryz.prog 23 #[.pointer (some ⟨p, 0, none⟩), .agg #[.string e.key, .int .i64 e.no]] w fun e' w' => e' = .returned (.tuple #[]) ∧ Turned w w' h p f T' := by
  intro h
  induction h with
  | zero =>
    intro p T f w e hT hn hs h1 hS he hl T' hT'
    have hSl : Srt T.l := by obtain ⟨l, ks⟩ := T; exact hS
    have heT : e ∈ T.l := by obtain ⟨l, ks⟩ := T; exact he
    obtain ⟨l, ks⟩ := T
    replace hSl : Srt l := hSl
    replace heT : e ∈ l := heT
    obtain ⟨lv, kv, ps, g, e1, e2, e3, e5, e4⟩ := hT.opn
    obtain ⟨A, c, rfl, hr⟩ := own_rd e2
    have hml := Rd.max hr
    have hl4 : l.length ≤ 4 := hl
    have ha := heap_alloc_new w (.cells #[.string e.key, .int .i64 e.no] 65)
    have hx1 := hid ((Ext.refl w).alloc_right (.cells #[.string e.key, .int .i64 e.no] 65))
    have z0 : (w.alloc (.cells #[.string e.key, .int .i64 e.no] 65)).cell? ⟨w.heap.size, 0, none⟩ = some (.string e.key) := by rw [Lib.cell_of_heap ha]; rfl
    have z1 : (w.alloc (.cells #[.string e.key, .int .i64 e.no] 65)).cell? ⟨w.heap.size, 1, none⟩ = some (.int .i64 e.no) := by rw [Lib.cell_of_heap ha]; rfl
    have zp := hx1.out.cell (node_c0 e1)
    have lp := World.block_lt_of_cell? _ _ zp
    dsimp only at lp
    have hP := hid (place_any p A l.length c l e _ zp (hr.ext hx1.out) hSl (by omega))
    have hil := (rank_cut hSl e).1
    have hbs : Hid (∀ a, f a ≠ 0 → a < w.heap.size) := fun a h0 => Nat.lt_of_not_le (fun h1 => h0 (hT.bound a h1))
    have hrk := (at_rank hSl heT).1
    obtain ⟨rfl, rfl, hg0⟩ := e5
    replace e4 : ∀ a, f a = one1 p a + ob (.slice A l.length c) a + ob kv a := fun a => by rw [e4 a, hg0 a]; omega
    obtain ⟨kA, kc, rfl, -⟩ := own_rd e3
    obtain rfl : T' = .nd (l.take (rankT l e) ++ l.drop (rankT l e + 1)) [] := hT'.out
    have hlen : Hid ((l.take (rankT l e) ++ l.drop (rankT l e + 1)).length = l.length - 1) := by unfold Hid; rw [List.length_append, List.length_take, List.length_drop]; omega
    have htn := hid (show tents (l.take (rankT l e) ++ l.drop (rankT l e + 1)) = (tents l).take (rankT l e * 2) ++ (tents l).drop ((rankT l e + 1) * 2) by rw [tents_append, tents_take, tents_drop])
    generalize l.take (rankT l e) ++ l.drop (rankT l e + 1) = l' at *
    clear hT' he heT
    clear ha zp hr
    go_enter Tryz.func23, Tryz.ntmps23
    go_upto_region 1 with fail
    obtain ⟨b, hb0⟩ : ∃ b, b = w.heap.size := ⟨_, rfl⟩
    rw [← hb0] at z0 z1
    simp only [← hb0]
    replace hb0 := hid hb0
    generalize w.alloc (.cells #[.string e.key, .int .i64 e.no] 65) = w1 at *
    generalize rankT l e = i at *
    generalize memT l e = mm at *
    go_wp2_with fail
    refine hP.out.mono ?_
    rintro e' w2 ⟨rfl, hx2⟩
    replace z0 := hx2.cell z0
    replace z1 := hx2.cell z1
    replace hx1 := hid (hx1.out.trans hx2)
    clear hx2 hP
    replace e1 := (hx1.out.block (Array.getElem?_eq_some_iff.1 e1).1).trans e1
    replace e2 := hx1.out.own e2
    replace e3 := hx1.out.own e3
    have lp2 := (Array.getElem?_eq_some_iff.1 e1).1
    have zk := node_c1 e1
    have zp := node_c0 e1
    obtain ⟨k, hk⟩ : ∃ k, k = i + 1 := ⟨_, rfl⟩
    have hw1 : IntKind.i64.wrap ((i : Int) + 1) = (k : Int) := by rw [IntWalk.i64_in _ (by omega)]; omega
    have hw2 : ((i : Int) + 1) = (k : Int) := by omega
    have hD := del_N l.length i _ (tents l) w2 hrk (by omega) e2 (tents_one _)
    rw [← hk] at hD htn
    replace hD := hid hD
    replace hk := hid hk
    go_upto_region 4 with fail
    go_wp2_with fail
    refine hD.out.mono ?_
    rintro e' W2 ⟨v', rfl, ho', hrw⟩
    rw [← htn.out, ← hlen.out] at ho'
    have hfin : ∀ u, u = v' → Turned w (W2.setCell ⟨p, 0, none⟩ u) 0 p f (.nd l' []) := fun u eu => by
      rw [eu]
      exact leaf_put hx1.out e1 e2 e3 e4 hn hrw ho'
    have bp := (hrw.1.block p lp2 (fun e0 => by have := hn p; rw [e4 p, ob_some e0.symm, one_self] at this; omega)).trans e1
    have y0 := node_c0 bp
    have y1 := Lib.frozen_of_heap bp 0
    replace hfin := hid hfin
    obtain ⟨Av, cv, rfl, -⟩ := own_form ho'
    replace hfin := hid (hfin.out _ rfl)
    clear ho' hrw hD bp zk zp e1 e2 e3
    go_wp2_with fail
    refine bodyPost_ret (results_none rfl _ _ _) rfl ?_
    exact ⟨rfl, hfin.out⟩
  | succ h ih =>
    intro p T f w e hT hn hs h1 hS he hl T' hT'
    have hSl : Srt T.l := by obtain ⟨l, ks⟩ := T; exact (node_lt hs hS e).1
    obtain ⟨l, ks⟩ := T
    replace hSl : Srt l := hSl
    obtain ⟨lv, kv, ps, g, e1, e2, e3, e5, e4⟩ := hT.opn
    obtain ⟨A, c, rfl, hr⟩ := own_rd e2
    have hml := Rd.max hr
    have hl4 : l.length ≤ 4 := hl
    have ha := heap_alloc_new w (.cells #[.string e.key, .int .i64 e.no] 65)
    have hx1 := hid ((Ext.refl w).alloc_right (.cells #[.string e.key, .int .i64 e.no] 65))
    have z0 : (w.alloc (.cells #[.string e.key, .int .i64 e.no] 65)).cell? ⟨w.heap.size, 0, none⟩ = some (.string e.key) := by rw [Lib.cell_of_heap ha]; rfl
    have z1 : (w.alloc (.cells #[.string e.key, .int .i64 e.no] 65)).cell? ⟨w.heap.size, 1, none⟩ = some (.int .i64 e.no) := by rw [Lib.cell_of_heap ha]; rfl
    have zp := hx1.out.cell (node_c0 e1)
    have lp := World.block_lt_of_cell? _ _ zp
    dsimp only at lp
    have hP := hid (place_any p A l.length c l e _ zp (hr.ext hx1.out) hSl (by omega))
    have hil := (rank_cut hSl e).1
    have hbs : Hid (∀ a, f a ≠ 0 → a < w.heap.size) := fun a h0 => Nat.lt_of_not_le (fun h1 => h0 (hT.bound a h1))
    obtain ⟨-, K, hKi, hfl, hA, hB, hSK⟩ := node_lt hs hS e
    obtain ⟨K2, hKi2, hmm⟩ := mem_node hs hS e
    obtain rfl := Option.some.inj (hKi.symm.trans hKi2)
    rw [memT_iff.2 he] at hmm
    have hl1 : 1 ≤ l.length := h1 (by omega)
    obtain ⟨q, g0, g1, g2, hpi, hKq, k0, k2, hg⟩ := Ks.cut (show Ks (TN w h) ps ks g from e5) hKi
    obtain ⟨s1, s2, s3⟩ := hs.2 K (List.mem_of_getElem? hKi)
    have hil2 : rankT l e < ps.length := (List.getElem?_eq_some_iff.1 hpi).1
    have hik : Hid (rankT l e < ks.length) := (List.getElem?_eq_some_iff.1 hKi).1
    have hKe : kth ks (rankT l e) = K := by have := kth_some hik.out; rw [hKi] at this; exact (Option.some.inj this).symm
    have hkl : ks.length = l.length + 1 := hs.1
    have hpsl : ps.length = ks.length := Ks.len (show Ks (TN w h) ps ks g from e5)
    have hn1 : ∀ a, g1 a ≤ 1 := fun a => by have := hn a; rw [e4 a, hg a] at this; omega
    have hnear := hid (fun (l' : List Te) (hl' : l'.length = l.length) (J : BT) (hJ : 1 ≤ J.l.length ∧ J.l.length ≤ 4 ∧ Shp h J) => near_set (l' := l') hs hl' hl1 hil hJ)
    have hatr := hid (fun hm : memT l e = true => (at_rank hSl (memT_iff.1 hm)).1)
    have hRT := hT'.out
    unfold takeT at hRT
    rw [hKe] at hRT
    obtain ⟨KL, xL, hKL⟩ : ∃ KL xL, Hid ((KL, xL) = lastT h K) := ⟨_, _, rfl⟩
    have hlo := last_ok h K s3 (by omega)
    rw [← hKL.out] at hlo hRT
    dsimp only at hlo hRT
    have ihL := hid (fun W (hx : Ext w W) => last_any h q K g1 W (hKq.ext hx) hn1 s3 (by omega) s2 KL xL hKL)
    have hJL : Hid (1 ≤ KL.l.length ∧ KL.l.length ≤ 4 ∧ Shp h KL) := ⟨by have := hlo.2.2.1; omega, by have := hlo.2.2.2; omega, hlo.1⟩
    obtain ⟨KT, hKT⟩ : ∃ KT, Hid (KT = takeT h K e) := ⟨_, rfl⟩
    rw [← hKT.out] at hRT
    have ihT := hid (fun W (hx : Ext w W) (hm : memT (flat h K) e = true) => ih q K g1 W e (hKq.ext hx) hn1 s3 (fun _ => by omega) hSK (memT_iff.1 hm) s2 KT hKT)
    have hJT : Hid (memT (flat h K) e = true → 1 ≤ KT.l.length ∧ KT.l.length ≤ 4 ∧ Shp h KT) := fun hm => by
      have := take_ok h K e s3 (fun _ => by omega) hSK (memT_iff.1 hm)
      rw [← hKT.out] at this
      exact ⟨by omega, by omega, this.1⟩
    replace hRT := hid hRT
    replace hmm := hid hmm
    obtain ⟨kA, kc, rfl, hkr⟩ := own_rd e3
    have hkm := Rd.max hkr
    obtain ⟨ad, rfl, -⟩ := hkr.2.2.2 (by omega)
    replace hkl := hid hkl
    replace hpsl := hid hpsl
    have hfb : Hid (∀ a, w.heap.size ≤ a → f a = 0) := hT.bound
    replace hn := hid hn
    replace e4 := hid e4
    replace hg := hid hg
    replace hpi := hid hpi
    replace hKi := hid hKi
    clear hKq e5 hfl hA hB hSK hs hS he hl hT hKe hSl hkr s1 s2 s3 hn1 hT' hKi2 hlo h1
    clear ha zp hr
    go_enter Tryz.func23, Tryz.ntmps23
    go_upto_region 1 with fail
    obtain ⟨b, hb0⟩ : ∃ b, b = w.heap.size := ⟨_, rfl⟩
    rw [← hb0] at z0 z1
    simp only [← hb0]
    replace hb0 := hid hb0
    generalize w.alloc (.cells #[.string e.key, .int .i64 e.no] 65) = w1 at *
    generalize rankT l e = i at *
    generalize memT l e = mm at *
    go_wp2_with fail
    refine hP.out.mono ?_
    rintro e' w2 ⟨rfl, hx2⟩
    replace z0 := hx2.cell z0
    replace z1 := hx2.cell z1
    replace hx1 := hid (hx1.out.trans hx2)
    clear hx2 hP
    replace e1 := (hx1.out.block (Array.getElem?_eq_some_iff.1 e1).1).trans e1
    replace e2 := hx1.out.own e2
    replace e3 := hx1.out.own e3
    have lp2 := (Array.getElem?_eq_some_iff.1 e1).1
    replace k0 := Ks.frame (fun p T g h1 (h2 : ∀ a, 0 < g a → (fun _ => 0) a = 0) => TN.ext h1 hx1.out) k0 (fun _ _ => rfl)
    replace k2 := Ks.frame (fun p T g h1 (h2 : ∀ a, 0 < g a → (fun _ => 0) a = 0) => TN.ext h1 hx1.out) k2 (fun _ _ => rfl)
    have zk := node_c1 e1
    have zl := node_c0 e1
    have zq := rd_ptr (Rd.of_own e3) hpi.out
    have hn0 : ((ps.length : Int) == 0) = false := by rw [beq_eq_false_iff_ne]; omega
    have hki : (i : Int) < (ps.length : Int) := by omega
    cases mm with
    | true =>
      have hil3 := hatr.out rfl
      have hil4 : (i : Int) < (l.length : Int) := by omega
      obtain ⟨ad0, rfl⟩ : ∃ ad0, A = some ad0 := by
        obtain ⟨A', c', e', hr'⟩ := own_rd e2
        injection e' with e' _ _
        subst e'
        obtain ⟨a0, h0, -⟩ := hr'.2.2.2 (by omega)
        exact ⟨a0, h0⟩
      have hTr : Hid (T' = fillT (l.set i xL) (ks.set i KL) i) := hRT.out.trans (if_pos rfl)
      clear hRT ihT hJT hmm hatr hKT
      go_upto_region 6 with fail
      have I0 : (fun w' : World => w'.cell? ⟨p, 0, none⟩ = some (.slice (some ad0) l.length c) ∧ w'.cell? ⟨p, 1, none⟩ = some (.slice (some ad) ps.length kc) ∧ w'.cell? (ad.add i) = some (.pointer (some ⟨q, 0, none⟩))) w2.drew := ⟨zl, zk, zq⟩
      have hxW := hid (hx1.out.drew_right)
      refine region_J (fun w' : World => w'.cell? ⟨p, 0, none⟩ = some (.slice (some ad0) l.length c) ∧ w'.cell? ⟨p, 1, none⟩ = some (.slice (some ad) ps.length kc) ∧ w'.cell? (ad.add i) = some (.pointer (some ⟨q, 0, none⟩))) 14 (by kernel_rfl) ?_
      replace e1 : w2.drew.heap[p]? = _ := e1
      replace e2 := (Ext.refl w2).drew_right.own e2
      replace e3 := (Ext.refl w2).drew_right.own e3
      replace k0 := Ks.frame (fun p T g h1 (h2 : ∀ a, 0 < g a → (fun _ => 0) a = 0) => TN.ext h1 (Ext.refl w2).drew_right) k0 (fun _ _ => rfl)
      replace k2 := Ks.frame (fun p T g h1 (h2 : ∀ a, 0 < g a → (fun _ => 0) a = 0) => TN.ext h1 (Ext.refl w2).drew_right) k2 (fun _ _ => rfl)
      clear z0 z1 zk zq zl hx1
      generalize w2.drew = W at *
      refine JT 0 (v := ?vc0) I0 ?yc0 ?rc0
      case yc0 => (intro w h; obtain ⟨_, _, _⟩ := h; go_simp; with_reducible rfl)
      simp only [Act.put, lyA, lyB, lyC, lyD, lyE, lyF]
      refine JT 1 (v := ?vc1) I0 ?yc1 ?rc1
      case yc1 => (intro w h; obtain ⟨_, _, _⟩ := h; go_simp; with_reducible rfl)
      simp only [Act.put, lyA, lyB, lyC, lyD, lyE, lyF]
      refine JT 2 (v := ?vc2) I0 ?yc2 ?rc2
      case yc2 => (intro w h; obtain ⟨_, _, _⟩ := h; go_simp; with_reducible rfl)
      simp only [Act.put, lyA, lyB, lyC, lyD, lyE, lyF]
      refine JT 3 (v := ?vc3) I0 ?yc3 ?rc3
      case yc3 => (intro w h; obtain ⟨_, _, _⟩ := h; go_simp; with_reducible rfl)
      simp only [Act.put, lyA, lyB, lyC, lyD, lyE, lyF]
      refine JT 4 (v := ?vc4) I0 ?yc4 ?rc4
      case yc4 => (intro w h; obtain ⟨_, _, _⟩ := h; go_simp; with_reducible rfl)
      simp only [Act.put, lyA, lyB, lyC, lyD, lyE, lyF]
      refine JT 5 (v := ?vc5) I0 ?yc5 ?rc5
      case yc5 => (intro w h; obtain ⟨_, _, _⟩ := h; go_simp; with_reducible rfl)
      simp only [Act.put, lyA, lyB, lyC, lyD, lyE, lyF]
      refine JT 6 (v := ?vc6) I0 ?yc6 ?rc6
      case yc6 => (intro w h; obtain ⟨_, _, _⟩ := h; go_simp; with_reducible rfl)
      simp only [Act.put, lyA, lyB, lyC, lyD, lyE, lyF]
      refine JT 7 (v := ?vc7) I0 ?yc7 ?rc7
      case yc7 => (intro w h; obtain ⟨_, _, _⟩ := h; go_simp; with_reducible rfl)
      simp only [Act.put, lyA, lyB, lyC, lyD, lyE, lyF]
      refine JT 8 (v := ?vc8) I0 ?yc8 ?rc8
      case yc8 => (intro w h; obtain ⟨_, _, _⟩ := h; go_simp; with_reducible rfl)
      simp only [Act.put, lyA, lyB, lyC, lyD, lyE, lyF]
      refine JT 9 (v := ?vc9) I0 ?yc9 ?rc9
      case yc9 => (intro w h; obtain ⟨_, _, _⟩ := h; go_simp; with_reducible rfl)
      simp only [Act.put, lyA, lyB, lyC, lyD, lyE, lyF]
      refine JT 10 (v := ?vc10) I0 ?yc10 ?rc10
      case yc10 => (intro w h; obtain ⟨_, _, _⟩ := h; go_simp; with_reducible rfl)
      simp only [Act.put, lyA, lyB, lyC, lyD, lyE, lyF]
      refine JT 11 (v := ?vc11) I0 ?yc11 ?rc11
      case yc11 => (intro w h; obtain ⟨_, _, _⟩ := h; go_simp; with_reducible rfl)
      simp only [Act.put, lyA, lyB, lyC, lyD, lyE, lyF]
      refine J_one 12 rfl (by kernel_rfl) (fun K hK => ?_)
      go_simp
      refine (ihL.out W hxW.out).mono ?_
      rintro e' W1 ⟨rfl, ht⟩
      obtain ⟨g1', t1, t2, t3, t4, t5, t6, t7, t8, t9⟩ := kid_turned (f := f) e1 e2 e3 hpi.out hKi.out k0 k2 (fun a => by rw [e4.out a, hg.out a]) hn.out (fun a ha => hfb.out a (Nat.le_trans hxW.out.size ha)) ht
      have I2 : (fun w' : World => w'.cell? ⟨p, 0, none⟩ = some (.slice (some ad0) l.length c) ∧ w'.cell? ⟨p, 1, none⟩ = some (.slice (some ad) ps.length kc) ∧ w'.cell? (ad.add i) = some (.pointer (some ⟨q, 0, none⟩))) W1 := ⟨node_c0 t2, node_c1 t2, rd_ptr (Rd.of_own t4) hpi.out⟩
      have hf1 := (own_freeA t3 (i * 2)).1
      have hz0 := (own_entryA t3 hil3).1
      have hz1 := (own_midA t3 hil3 (.string xL.key)).1
      have hf2 := (own_midA t3 hil3 (.string xL.key)).2
      have hot := own_turnA (x := xL) t3 hil3
      have hrow := hid (kid_row (l' := l.set i xL) t1 t2 t4 t5 t6 t7 hpi.out hik.out hot.2 (by rw [List.length_set]; exact hot.1))
      replace t7 := hid t7
      replace t8 := hid t8
      replace t9 := hid t9
      clear ht e1 e2 e3 k0 k2 ihL t1 t2 t3 t4 t5 t6 hot
      refine hK _ _ ⟨fun _ => I2, ?_⟩
      clear hK K
      try simp only [Act.put, lyA, lyB, lyC, lyD, lyE, lyF]
      refine J_one 13 rfl (by kernel_rfl) (fun K hK => ?_)
      go_simp
      refine hK _ _ ⟨fun _ => I2, ?_⟩
      clear hK K
      try simp only [Act.put, lyD, lyE, lyF]
      refine J_one 14 rfl (by kernel_rfl) (fun K hK => ?_)
      go_simp
      refine hK _ _ ⟨fun h => absurd rfl h, ?_⟩
      clear hK K
      refine J_done (by kernel_rfl) (OnlyOn.normal ?_)
      clear hf1 hf2 hz0 hz1 I2 I0
      generalize (W1.setCell (ad0.add (i * 2)) (.string xL.key)).setCell ⟨(ad0.add (i * 2)).block, (ad0.add (i * 2)).off + 1, none⟩ (.int .i64 xL.no) = W2 at *
      have hfill := hid (fill_any h p i (l.set i xL) (ks.set i KL) _ W2 hrow.out.1 t7.out (hnear.out _ (List.length_set ..) KL hJL.out) (by rw [List.length_set]; omega))
      rw [← hTr.out] at hfill
      have hF2 : Hid (FR f W W2) := t9.out.trans hrow.out.2 (fun k hk h0 => by have := t8.out k hk; omega)
      go_wp2_with fail
      refine hfill.out.mono ?_
      rintro e' W3 ⟨rfl, ht⟩
      have hfin := hid (Turned.left (Turned.seq t8.out hF2.out ht) hxW.out)
      clear hfill ht
      go_wp2_with fail
      go_end0
      exact ⟨rfl, hfin.out⟩
    | false =>
      have hTr : Hid (T' = fillT l (ks.set i KT) i) := hRT.out.trans (if_neg (by decide))
      have hmK : memT (flat h K) e = true := by have := hmm.out; rw [Bool.false_or] at this; exact this.symm
      replace ihT := hid (fun W hx => ihT.out W hx hmK)
      replace hJT := hid (hJT.out hmK)
      clear hRT ihL hJL hmm hatr hKL hmK
      go_upto_region 2 with fail
      have I0 : (fun w' : World => w'.cell? ⟨p, 1, none⟩ = some (.slice (some ad) ps.length kc) ∧ w'.cell? (ad.add i) = some (.pointer (some ⟨q, 0, none⟩)) ∧ w'.cell? ⟨b, 0, none⟩ = some (.string e.key) ∧ w'.cell? ⟨b, 1, none⟩ = some (.int .i64 e.no)) w2.drew := ⟨zk, zq, z0, z1⟩
      have hxW := hid (hx1.out.drew_right)
      refine region_J (fun w' : World => w'.cell? ⟨p, 1, none⟩ = some (.slice (some ad) ps.length kc) ∧ w'.cell? (ad.add i) = some (.pointer (some ⟨q, 0, none⟩)) ∧ w'.cell? ⟨b, 0, none⟩ = some (.string e.key) ∧ w'.cell? ⟨b, 1, none⟩ = some (.int .i64 e.no)) 9 (by kernel_rfl) ?_
      replace e1 : w2.drew.heap[p]? = _ := e1
      replace e2 := (Ext.refl w2).drew_right.own e2
      replace e3 := (Ext.refl w2).drew_right.own e3
      replace k0 := Ks.frame (fun p T g h1 (h2 : ∀ a, 0 < g a → (fun _ => 0) a = 0) => TN.ext h1 (Ext.refl w2).drew_right) k0 (fun _ _ => rfl)
      replace k2 := Ks.frame (fun p T g h1 (h2 : ∀ a, 0 < g a → (fun _ => 0) a = 0) => TN.ext h1 (Ext.refl w2).drew_right) k2 (fun _ _ => rfl)
      clear z0 z1 zk zq zl hx1
      generalize w2.drew = W at *
      refine JO 0 (v := ?vd0) I0 ?yd0 ?rd0
      case yd0 => (intro w h; obtain ⟨_, _, _, _⟩ := h; go_simp; with_reducible rfl)
      simp only [Act.put, lyA, lyB, lyC, lyD, lyE, lyF]
      refine JO 1 (v := ?vd1) I0 ?yd1 ?rd1
      case yd1 => (intro w h; obtain ⟨_, _, _, _⟩ := h; go_simp; with_reducible rfl)
      simp only [Act.put, lyA, lyB, lyC, lyD, lyE, lyF]
      refine JO 2 (v := ?vd2) I0 ?yd2 ?rd2
      case yd2 => (intro w h; obtain ⟨_, _, _, _⟩ := h; go_simp; with_reducible rfl)
      simp only [Act.put, lyA, lyB, lyC, lyD, lyE, lyF]
      refine JO 3 (v := ?vd3) I0 ?yd3 ?rd3
      case yd3 => (intro w h; obtain ⟨_, _, _, _⟩ := h; go_simp; with_reducible rfl)
      simp only [Act.put, lyA, lyB, lyC, lyD, lyE, lyF]
      refine JO 4 (v := ?vd4) I0 ?yd4 ?rd4
      case yd4 => (intro w h; obtain ⟨_, _, _, _⟩ := h; go_simp; with_reducible rfl)
      simp only [Act.put, lyA, lyB, lyC, lyD, lyE, lyF]
      refine JO 5 (v := ?vd5) I0 ?yd5 ?rd5
      case yd5 => (intro w h; obtain ⟨_, _, _, _⟩ := h; go_simp; with_reducible rfl)
      simp only [Act.put, lyA, lyB, lyC, lyD, lyE, lyF]
      refine JO 6 (v := ?vd6) I0 ?yd6 ?rd6
      case yd6 => (intro w h; obtain ⟨_, _, _, _⟩ := h; go_simp; with_reducible rfl)
      simp only [Act.put, lyA, lyB, lyC, lyD, lyE, lyF]
      refine JO 7 (v := ?vd7) I0 ?yd7 ?rd7
      case yd7 => (intro w h; obtain ⟨_, _, _, _⟩ := h; go_simp; with_reducible rfl)
      simp only [Act.put, lyA, lyB, lyC, lyD, lyE, lyF]
      refine J_one 8 rfl (by kernel_rfl) (fun K hK => ?_)
      go_simp
      refine (ihT.out W hxW.out).mono ?_
      rintro e' w5 ⟨rfl, ht⟩
      obtain ⟨g1', t1, t2, t3, t4, t5, t6, t7, t8, t9⟩ := kid_turned (f := f) e1 e2 e3 hpi.out hKi.out k0 k2 (fun a => by rw [e4.out a, hg.out a]) hn.out (fun a ha => hfb.out a (Nat.le_trans hxW.out.size ha)) ht
      have hbc : ∀ j x, W.cell? ⟨b, j, none⟩ = some x → w5.cell? ⟨b, j, none⟩ = some x := fun j x hx => by
        rw [World.cell?_of_block (t9.2.2.2.2 b (World.block_lt_of_cell? _ _ hx) (hfb.out b (by have := hb0.out; omega)))]
        exact hx
      have I2 : (fun w' : World => w'.cell? ⟨p, 1, none⟩ = some (.slice (some ad) ps.length kc) ∧ w'.cell? (ad.add i) = some (.pointer (some ⟨q, 0, none⟩)) ∧ w'.cell? ⟨b, 0, none⟩ = some (.string e.key) ∧ w'.cell? ⟨b, 1, none⟩ = some (.int .i64 e.no)) w5 := ⟨node_c1 t2, rd_ptr (Rd.of_own t4) hpi.out, hbc 0 _ I0.2.2.1, hbc 1 _ I0.2.2.2⟩
      have hTN := hid (kid_shut t1 t2 t3 t4 t5 t6 hpi.out hik.out)
      replace t7 := hid t7
      replace t8 := hid t8
      replace t9 := hid t9
      clear ht e1 e2 e3 k0 k2 hbc ihT t1 t2 t3 t4 t5 t6
      refine hK _ _ ⟨fun _ => I2, ?_⟩
      clear hK K
      try simp only [Act.put, lyA, lyB, lyC, lyD, lyE, lyF]
      refine J_done (by kernel_rfl) (OnlyOn.normal ?_)
      clear I2 I0
      have hfill := hid (fill_any h p i l (ks.set i KT) _ w5 hTN.out t7.out (hnear.out l rfl KT hJT.out) (by omega))
      rw [← hTr.out] at hfill
      go_wp2_with fail
      refine hfill.out.mono ?_
      rintro e' W3 ⟨rfl, ht⟩
      have hfin := hid (Turned.left (Turned.seq t8.out t9.out ht) hxW.out)
      clear hfill ht
      go_wp2_with fail
      go_end0
      exact ⟨rfl, hfin.out⟩
open Go.RowKit Go.Shelf
def Gr (f : Nat → Nat) (w w' : World) (o : Value) : Prop := FR f w w' ∧ ∀ a, a < w.heap.size → ob o a ≤ f a
theorem Gr.start (w : World) (v : Value) : Gr (ob v) w w v := ⟨FR.of_ext (Ext.refl w), fun _ _ => Nat.le_refl _⟩
theorem Gr.ext {f : Nat → Nat} {w w1 w2 : World} {o : Value} (h : Gr f w w1 o) (hx : Ext w1 w2) : Gr f w w2 o := ⟨h.1.trans (FR.of_ext (f := f) hx) (fun _ _ h => h), h.2⟩
theorem Gr.trans {f : Nat → Nat} {w w1 w2 : World} {o o' : Value} (h : Gr f w w1 o) (h2 : Gr (ob o) w1 w2 o') : Gr f w w2 o' :=
  ⟨h.1.trans h2.1 (fun k hk h0 => by have := h.2 k hk; omega), fun a ha => Nat.le_trans (h2.2 a (Nat.lt_of_lt_of_le ha h.1.2.2.2.1)) (h.2 a ha)⟩
theorem Gr.push {f : Nat → Nat} {w w1 w2 : World} {o o' : Value} (h : Gr f w w1 o) (hg : w1.grownBy w2 o.ownBlock) (ho : o'.ownBlock = o.ownBlock ∨ ∀ k, o'.ownBlock = some k → w1.heap.size ≤ k) : Gr f w w2 o' := by
  refine ⟨⟨h.1.1.trans hg.os.symm, h.1.2.1.trans hg.tape.symm, h.1.2.2.1.trans hg.output.symm, Nat.le_trans h.1.2.2.2.1 hg.size, fun k hk h0 => ?_⟩, fun a ha => ?_⟩
  · refine (hg.block k (Nat.lt_of_lt_of_le hk h.1.2.2.2.1) (fun e => ?_)).trans (h.1.2.2.2.2 k hk h0)
    have := h.2 k hk
    rw [ob_some e.symm] at this
    omega
  · rcases ho with h1 | h1
    · rw [ob_same h1]; exact h.2 a ha
    · rw [show ob o' a = 0 from if_neg (fun e => by have := h1 a e; have := h.1.2.2.2.1; omega)]; exact Nat.zero_le _
theorem at_own {v : Value} {W W' g : Nat} (h : v.ownBlock = some g ∨ g = W' + 1) (hW : W ≤ W' + 1) (n2 c2 : Nat) : (Value.slice (some ⟨g, 0, none⟩) n2 c2).ownBlock = v.ownBlock ∨ ∀ k, (Value.slice (some ⟨g, 0, none⟩) n2 c2).ownBlock = some k → W ≤ k := by
  rcases h with h | h
  · left; rw [h]; rfl
  · right
    intro k hk
    have : g = k := by simpa [Value.ownBlock] using hk
    omega
def Shw : Nat → BT → Prop
  | 0, .nd l ks => ks = []
  | h + 1, .nd l ks => ks.length = l.length + 1 ∧ ∀ k ∈ ks, Shw h k
theorem Shp.w : ∀ {h : Nat} {T : BT}, Shp h T → Shw h T
  | 0, .nd l ks, hs => hs
  | h + 1, .nd l ks, hs => ⟨hs.1, fun k hk => (hs.2 k hk).2.2.w⟩
def ptF (h : Nat) (l : List Te) (ks : List BT) (k : Nat) : List Te := wvp (l.take k) ((ks.take k).map (flat h))
theorem pt_cut {h : Nat} {l : List Te} {ks : List BT} {k : Nat} {K : BT} (hl : ks.length = l.length + 1) (hk : ks[k]? = some K) : flat (h + 1) (.nd l ks) = ptF h l ks k ++ (flat h K ++ tlW (l.drop k) ((ks.drop (k + 1)).map (flat h))) := by
  obtain ⟨hlt, rfl⟩ := List.getElem?_eq_some_iff.1 hk
  have h1 := flat_cut (h := h) (l1 := l.take k) (l2 := l.drop k) (k1 := ks.take k) (K := ks[k]) (k2 := ks.drop (k + 1)) (by rw [List.length_take, List.length_take]; omega)
  rw [List.take_append_drop, ← list_cut hlt] at h1
  exact h1
theorem wvp_last : ∀ {l : List Te} {m : List (List Te)} {x : Te} {y : List Te}, l.length = m.length → wvp (l ++ [x]) (m ++ [y]) = wvp l m ++ (y ++ [x])
  | [], [], x, y, _ => rfl
  | a :: l, b :: m, x, y, h => by
    rw [List.cons_append, List.cons_append, wvp, wvp, wvp_last (by simpa using h)]
    simp
  | [], _ :: _, _, _, h => by cases h
  | _ :: _, [], _, _, h => by cases h
theorem pt_step {h : Nat} {l : List Te} {ks : List BT} {k : Nat} {K : BT} (hl : ks.length = l.length + 1) (hlt : k < l.length) (hk : ks[k]? = some K) : ptF h l ks (k + 1) = ptF h l ks k ++ (flat h K ++ [tth l k]) := by
  unfold ptF
  rw [List.take_succ_eq_append_getElem hlt, List.take_add_one, hk, tth_get hlt]
  show wvp (l.take k ++ [l[k]]) ((ks.take k ++ [K]).map (flat h)) = _
  rw [List.map_append]
  exact wvp_last (by rw [List.length_map, List.length_take, List.length_take]; omega)
theorem pt_len {h : Nat} {l : List Te} {ks : List BT} {k : Nat} (hl : ks.length = l.length + 1) (hk : k ≤ l.length) : (ptF h l ks k).length ≤ (flat (h + 1) (.nd l ks)).length := by
  have hlt : k < ks.length := by omega
  rw [pt_cut hl (List.getElem?_eq_getElem hlt), List.length_append]
  omega
theorem pt_end {h : Nat} {l : List Te} {ks : List BT} {K : BT} (hl : ks.length = l.length + 1) (hk : ks[l.length]? = some K) : flat (h + 1) (.nd l ks) = ptF h l ks l.length ++ flat h K := by
  rw [pt_cut hl hk, List.drop_length]
  simp [tlW]
theorem tents_snoc (l : List Te) (x : Te) : tents (l ++ [x]) = tents l ++ [.string x.key, .int .i64 x.no] := by rw [tents_append]; simp [tents, tcells]
theorem all_any : ∀ (h p : Nat) (T : BT) (f : Nat → Nat) (B : Nat) (v : Value) (O : List Te) (w : World), TN w h p T f → Shw h T → (∀ a, 0 < ob v a → f a = 0) → w.ownsRow B 65 2 v O.length (tents O) → B ≤ w.heap.size → O.length + (flat h T).length ≤ 100000 → Calls Tryz.prog 69 #[.pointer (some ⟨p, 0, none⟩), v] w fun e w' => ∃ v', e = .returned v' ∧ w'.ownsRow B 65 2 v' (O ++ flat h T).length (tents (O ++ flat h T)) ∧ Gr (ob v) w w' v' := by
  obtain ⟨i0, hi0, hz0, hz1, hz2⟩ := info_parts infoN
  intro h
  induction h with
  | zero =>
    intro p T f B v O w hT hs hv hown hB hn
    obtain ⟨l, ks⟩ := T
    obtain ⟨hk, lv, kv, e1, e2, e3, e4⟩ := hT
    obtain ⟨A, c, rfl, hr⟩ := own_rd e2
    obtain ⟨kA, kc, rfl, -⟩ := own_rd e3
    have hmx := Rd.max hr
    have cp0 := node_c0 e1
    have cp1 := node_c1 e1
    have hin : Hid (∀ w', FR (ob v) w w' → w'.cell? ⟨p, 1, none⟩ = some (.slice kA 0 kc) ∧ RdN w' A l.length c l) := fun w' hF => by
      have hz : ∀ a, 0 < f a → ob v a = 0 := fun a ha => by
        rcases Nat.eq_zero_or_pos (ob v a) with h0 | h0
        · exact h0
        · have := hv a h0; omega
      refine ⟨node_c1 ((hF.2.2.2.2 p (Array.getElem?_eq_some_iff.1 e1).1 (hz p (by rw [e4 p, one_self]; omega))).trans e1), Rd.of_own (hF.own e2 (fun k e => hz k (by rw [e4 k, ob_some e]; omega)))⟩
    have hn' : O.length + l.length ≤ 100000 := hn
    have hst := hid (Gr.start w v)
    replace hown := hid hown
    show Calls Tryz.prog _ _ _ fun e w' => ∃ v', e = .returned v' ∧ w'.ownsRow B 65 2 v' (O ++ l).length (tents (O ++ l)) ∧ Gr (ob v) w w' v'
    clear e1 e2 e3 e4 hr hs hv hn
    go_enter Tryz.func69, Tryz.ntmps69
    go_wp2
    go_loopw [1, 12] (fun o i wr => ∃ k : Nat, k ≤ l.length ∧ i = .int .i64 k ∧ Hid (wr.ownsRow B 65 2 o (O ++ l.take k).length (tents (O ++ l.take k))) ∧ Hid (Gr (ob v) w wr o)) (fun _ i _ => l.length - (intOf i).toNat)
    case atStart => exact ⟨0, by omega, rfl, by rw [List.take_zero, List.append_nil]; exact hown.out, hst.out⟩
    case round =>
      obtain ⟨k, hkl, rfl, hown, hG⟩ := hrel
      obtain ⟨Ao, co, rfl, -⟩ := own_form hown.out
      obtain ⟨zk, hr⟩ := hin.out wr hG.out.1
      have hBr : B ≤ wr.heap.size := Nat.le_trans hB hG.out.1.2.2.2.1
      have lzk := World.block_lt_of_cell? _ _ zk
      dsimp only at lzk
      by_cases hlt : k < l.length
      · obtain ⟨ad, rfl, z0, z1⟩ := hr.at_ hlt
        have zk1 := ((Ext.refl wr).alloc_right (.cells #[.string (tth l k).key, .int .i64 (tth l k).no] 65)).cell zk
        have hlen : Hid ((O ++ l.take (k + 1)).length = (O ++ l.take k).length + 1) := by unfold Hid; rw [List.length_append, List.length_append, List.length_take, List.length_take]; omega
        have hlb : (O ++ l.take k).length ≤ 100000 := by rw [List.length_append, List.length_take]; omega
        have hten : Hid (tents (O ++ l.take (k + 1)) = tents (O ++ l.take k) ++ [.string (tth l k).key, .int .i64 (tth l k).no]) := by
          unfold Hid
          rw [List.take_succ_eq_append_getElem hlt, ← List.append_assoc, tents_snoc, tth_get hlt]
        generalize tth l k = x at *
        generalize (O ++ l.take k).length = n at *
        generalize tents (O ++ l.take k) = xs at *
        have hown1 : Hid (∀ o, (wr.alloc o).ownsRow B 65 2 (.slice Ao n co) n xs) := fun o => hown.out.alloc o
        have hG1 := hid (hG.out.ext ((Ext.refl wr).alloc_right (.cells #[.string x.key, .int .i64 x.no] 65)))
        have hB1 : B ≤ (wr.alloc (.cells #[.string x.key, .int .i64 x.no] 65)).heap.size := by simp; omega
        go_wp2_with (at_builtin; refine wpList_push _ rfl _ _ 45 rfl B 65 i0 _ 2 24 Tryz.underlying45 hi0 hz0 hz1 hz2 rfl (by decide) _ _ _ rfl (hown1.out _) [.string x.key, .int .i64 x.no] (by simp [Act.eval]) rfl (by simp [Value.oneCell']) (by unfold maxLen; omega) (by omega) hB1 ?_)
        intro g2 d2 w2 own2 hg2 hat
        have hG2 := hid (hG1.out.push hg2 (at_own hat (by simp) (n + 1) d2))
        have own3 : Hid (w2.ownsRow B 65 2 (.slice (some ⟨g2, 0, none⟩) (n + 1) d2) (O ++ l.take (k + 1)).length (tents (O ++ l.take (k + 1)))) := by
          unfold Hid
          rw [hlen.out, hten.out]
          exact own2
        clear hg2 hat own2 hlen hten
        go_wp2_with fail
        go_roundw
        case rel => exact ⟨k + 1, by omega, by go_num, own3, hG2⟩
        case measure => simp [intOf]; omega
      · obtain rfl : k = l.length := by omega
        go_wp2
        go_ret
        exact ⟨.slice Ao (O ++ l.take l.length).length co, rfl, by have h9 := hown.out; rw [List.take_length] at h9 ⊢; exact h9, hG.out⟩
  | succ h ih =>
    intro p T f B v O w hT hs hv hown hB hn
    obtain ⟨l, ks⟩ := T
    obtain ⟨lv, kv, ps, g, e1, e2, e3, e5, e4⟩ := hT
    obtain ⟨A, c, rfl, hr⟩ := own_rd e2
    obtain ⟨kA, kc, rfl, hkr⟩ := own_rd e3
    have hmx := Rd.max hr
    have hkmx := Rd.max hkr
    have cp0 := node_c0 e1
    have cp1 := node_c1 e1
    have hkl : ks.length = l.length + 1 := hs.1
    have hpl : ps.length = l.length + 1 := by rw [e5.len, hkl]
    have hin : Hid (∀ w', FR (ob v) w w' → w'.cell? ⟨p, 0, none⟩ = some (.slice A l.length c) ∧ w'.cell? ⟨p, 1, none⟩ = some (.slice kA ps.length kc) ∧ RdN w' A l.length c l ∧ Rd w' 1 kA ps.length kc (ptrs ps)) := fun w' hF => by
      have hz : ∀ a, 0 < f a → ob v a = 0 := fun a ha => by
        rcases Nat.eq_zero_or_pos (ob v a) with h0 | h0
        · exact h0
        · have := hv a h0; omega
      have e1' := (hF.2.2.2.2 p (Array.getElem?_eq_some_iff.1 e1).1 (hz p (by rw [e4 p, one_self]; omega))).trans e1
      exact ⟨node_c0 e1', node_c1 e1', Rd.of_own (hF.own e2 (fun k e => hz k (by rw [e4 k, ob_some e]; omega))), Rd.of_own (hF.own e3 (fun k e => hz k (by rw [e4 k, ob_some e]; omega)))⟩
    have hkid : Hid (∀ (k : Nat) (w' : World) (o : Value) (O' : List Te), k ≤ l.length → Gr (ob v) w w' o → w'.ownsRow B 65 2 o O'.length (tents O') → O'.length = O.length + (ptF h l ks k).length → ∃ q K, ps[k]? = some q ∧ ks[k]? = some K ∧ (ptF h l ks k).length + (flat h K).length ≤ (flat (h + 1) (.nd l ks)).length ∧ Calls Tryz.prog 69 #[.pointer (some ⟨q, 0, none⟩), o] w' fun e w2 => ∃ v', e = .returned v' ∧ w2.ownsRow B 65 2 v' (O' ++ flat h K).length (tents (O' ++ flat h K)) ∧ Gr (ob o) w' w2 v') := fun k w' o O' hk hG ho hlO => by
      have hlt : k < ks.length := by omega
      have hK := List.getElem?_eq_getElem hlt
      obtain ⟨q, g0, g1, g2, hq, hTK, -, -, hgs⟩ := e5.cut hK
      have hcut := pt_cut (h := h) hkl hK
      have hbd : (ptF h l ks k).length + (flat h ks[k]).length ≤ (flat (h + 1) (.nd l ks)).length := by rw [hcut, List.length_append, List.length_append]; omega
      refine ⟨q, ks[k], hq, hK, hbd, ih q ks[k] g1 B o O' w' ?_ (hs.2 _ (List.getElem_mem hlt)) (fun a ha => ?_) ho (Nat.le_trans hB hG.1.2.2.2.1) (by omega)⟩
      · refine hTK.frame hG.1 (fun a ha => ?_)
        rcases Nat.eq_zero_or_pos (ob v a) with h0 | h0
        · exact h0
        · have := hv a h0; rw [e4 a, hgs a] at this; omega
      · by_cases haw : a < w.heap.size
        · have h1 := hG.2 a haw
          have h2 := hv a (by omega)
          rw [e4 a, hgs a] at h2
          omega
        · exact TN.bound hTK a (by omega)
    have hptl : Hid (∀ k, k ≤ l.length → (ptF h l ks k).length ≤ (flat (h + 1) (.nd l ks)).length) := fun k hk => pt_len hkl hk
    have hst := hid (Gr.start w v)
    replace hown := hid hown
    have hsteps : Hid (∀ k K, k < l.length → ks[k]? = some K → ptF h l ks (k + 1) = ptF h l ks k ++ (flat h K ++ [tth l k])) := fun k K hk hK => pt_step hkl hk hK
    have hends : Hid (∀ K, ks[l.length]? = some K → flat (h + 1) (.nd l ks) = ptF h l ks l.length ++ flat h K) := fun K hK => pt_end hkl hK
    have hpt0 : Hid (ptF h l ks 0 = []) := by unfold Hid ptF; rw [List.take_zero]; rfl
    clear e1 e2 e3 e4 e5 hr hkr hs hv ih
    generalize flat (h + 1) (.nd l ks) = FF at *
    replace hkl := hid hkl
    replace hpl := hid hpl
    go_enter Tryz.func69, Tryz.ntmps69
    go_wp2
    go_loopw [1, 12] (fun o i wr => ∃ k : Nat, k ≤ l.length ∧ i = .int .i64 k ∧ Hid (wr.ownsRow B 65 2 o (O ++ ptF h l ks k).length (tents (O ++ ptF h l ks k))) ∧ Hid (Gr (ob v) w wr o)) (fun _ i _ => l.length - (intOf i).toNat)
    case atStart => exact ⟨0, by omega, rfl, by rw [hpt0.out, List.append_nil]; exact hown.out, hst.out⟩
    case round =>
      obtain ⟨k, hkl, rfl, hown, hG⟩ := hrel
      obtain ⟨Ao, co, rfl, -⟩ := own_form hown.out
      obtain ⟨zl, zk, hr, hkr⟩ := hin.out wr hG.out.1
      have hBr : B ≤ wr.heap.size := Nat.le_trans hB hG.out.1.2.2.2.1
      have lzk := World.block_lt_of_cell? _ _ zk
      dsimp only at lzk
      by_cases hlt : k < l.length
      · obtain ⟨ad, rfl, z0, z1⟩ := hr.at_ hlt
        have hxr := (Ext.refl wr).alloc_right (.cells #[.string (tth l k).key, .int .i64 (tth l k).no] 65)
        have hb0 := heap_alloc_new wr (.cells #[.string (tth l k).key, .int .i64 (tth l k).no] 65)
        have hob : Hid (ob (.slice Ao (O ++ ptF h l ks k).length co) wr.heap.size = 0) := own_bound hown.out (Nat.le_refl _)
        obtain ⟨q, K, hq, hK, hbd, hC⟩ := hkid.out k (wr.alloc (.cells #[.string (tth l k).key, .int .i64 (tth l k).no] 65)) _ _ hkl (hG.out.ext hxr) (hxr.own hown.out) (by rw [List.length_append])
        have hst1 := hsteps.out k K hlt hK
        have hlb := hptl.out (k + 1) hlt
        rw [hst1] at hlb
        simp only [List.length_append, List.length_cons, List.length_nil] at hlb
        have hlen : Hid ((O ++ ptF h l ks (k + 1)).length = (O ++ ptF h l ks k ++ flat h K).length + 1) := by unfold Hid; rw [hst1]; simp only [List.length_append, List.length_cons, List.length_nil]; omega
        have hlb2 : (O ++ ptF h l ks k ++ flat h K).length < 100000 := by simp only [List.length_append]; omega
        have hten : Hid (tents (O ++ ptF h l ks (k + 1)) = tents (O ++ ptF h l ks k ++ flat h K) ++ [.string (tth l k).key, .int .i64 (tth l k).no]) := by
          unfold Hid
          rw [hst1, ← tents_snoc]
          congr 1
          simp [List.append_assoc]
        have hC' := hid hC
        have hq' := hid hq
        have hkn : k < ps.length := by rw [hpl.out]; omega
        have hki : (k : Int) < (ps.length : Int) := by omega
        have hk0 : (0 : Int) < (ps.length : Int) := by omega
        obtain ⟨kad, rfl, -⟩ := hkr.2.2.2 (by omega)
        have cq := hxr.cell (rd_ptr hkr hq)
        replace zk := hxr.cell zk
        replace hG := hid (hG.out.ext hxr)
        clear hC hst1 hlb hq hK hbd hkr
        go_upto_region 4 with fail
        generalize tth l k = x at *
        have hsz1 : (wr.alloc (.cells #[.string x.key, .int .i64 x.no] 65)).heap.size = wr.heap.size + 1 := by simp
        clear hown z0 z1 hr hxr
        obtain ⟨b, hbe⟩ : ∃ b, b = wr.heap.size := ⟨_, rfl⟩
        rw [← hbe] at hb0 hob hsz1 lzk
        simp only [← hbe]
        have hBb : B ≤ b := by omega
        generalize wr.alloc (.cells #[.string x.key, .int .i64 x.no] 65) = w1 at *
        clear hbe
        generalize (O ++ ptF h l ks k ++ flat h K).length = n at *
        generalize tents (O ++ ptF h l ks k ++ flat h K) = xs at *
        generalize (O ++ ptF h l ks k).length = n0 at *
        replace hsz1 := hid hsz1
        replace hb0 := hid hb0
        have lt1 := World.block_lt_of_cell? _ _ zk
        dsimp only at lt1
        go_wp2_with fail
        refine hC'.out.mono ?_
        rintro e' w5 ⟨v5, rfl, own5, gr5⟩
        have hown5 := hid own5
        have hG5 := hid gr5
        have hG1 := hid (hG.out.trans gr5)
        clear own5 gr5
        have ho5 := hid hown5.out
        obtain ⟨A5, c5, rfl, -⟩ := own_form ho5.out
        have hb5 : w5.heap[b]? = some (.cells #[.string x.key, .int .i64 x.no] 65 (0, 0)) := (hG5.out.1.2.2.2.2 b (by rw [hsz1.out]; omega) hob.out).trans hb0.out
        have y0 : w5.cell? ⟨b, 0, none⟩ = some (.string x.key) := by rw [Lib.cell_of_heap hb5]; rfl
        have y1 : w5.cell? ⟨b, 1, none⟩ = some (.int .i64 x.no) := by rw [Lib.cell_of_heap hb5]; rfl
        have lb5 := (Array.getElem?_eq_some_iff.1 hb5).1
        have hB5 : B ≤ w5.heap.size := by omega
        clear hb0 hsz1 hG hG5 hown5 hb5 hob zk cq
        go_wp2_with (at_builtin; refine wpList_push _ rfl _ _ 45 rfl B 65 i0 _ 2 24 Tryz.underlying45 hi0 hz0 hz1 hz2 rfl (by decide) _ _ _ rfl ho5.out [.string x.key, .int .i64 x.no] (by simp [Act.eval]) rfl (by simp [Value.oneCell']) (by unfold maxLen; omega) (by omega) hB5 ?_)
        intro g2 d2 w6 own2 hg2 hat
        have hG2 := hid (hG1.out.push hg2 (at_own hat (by simp) (n + 1) d2))
        have own3 : Hid (w6.ownsRow B 65 2 (.slice (some ⟨g2, 0, none⟩) (n + 1) d2) (O ++ ptF h l ks (k + 1)).length (tents (O ++ ptF h l ks (k + 1)))) := by
          unfold Hid
          rw [hlen.out, hten.out]
          exact own2
        clear hg2 hat own2 hlen hten
        go_wp2_with fail
        go_roundw
        case rel => exact ⟨k + 1, by omega, by go_num, own3, hG2⟩
        case measure => simp [intOf]; omega
      · obtain rfl : k = l.length := by omega
        obtain ⟨q, K, hq, hK, hbd, hC⟩ := hkid.out l.length wr.drew _ _ hkl (hG.out.ext ((Ext.refl wr).drew_right)) (own_drewN hown.out 1) (by rw [List.length_append])
        have hend := hid (hends.out K hK)
        have hC' := hid hC
        have hq' := hid hq
        have hkn : l.length < ps.length := by rw [hpl.out]; omega
        have hki : (l.length : Int) < (ps.length : Int) := by omega
        have hk0 : (0 : Int) < (ps.length : Int) := by omega
        obtain ⟨kad, rfl, -⟩ := hkr.2.2.2 (by omega)
        have cq := rd_ptr hkr hq
        clear hC hq hK hbd hkr hown
        go_upto_region 9 with fail
        have I0 : (fun w' : World => w'.cell? ⟨p, 0, none⟩ = some (.slice A l.length c) ∧ w'.cell? ⟨p, 1, none⟩ = some (.slice (some kad) ps.length kc) ∧ w'.cell? (kad.add l.length) = some (.pointer (some ⟨q, 0, none⟩))) wr.drew := ⟨zl, zk, cq⟩
        refine region_J (fun w' : World => w'.cell? ⟨p, 0, none⟩ = some (.slice A l.length c) ∧ w'.cell? ⟨p, 1, none⟩ = some (.slice (some kad) ps.length kc) ∧ w'.cell? (kad.add l.length) = some (.pointer (some ⟨q, 0, none⟩))) 14 (by kernel_rfl) ?_
        clear zl zk cq
        generalize (O ++ ptF h l ks l.length).length = n0 at *
        generalize hw3 : wr.drew = w3 at *
        replace hG := hid (hG.out.ext ((Ext.refl wr).drew_right))
        rw [hw3] at hG
        refine JO 0 (v := ?vd0) I0 ?yd0 ?rd0
        case yd0 => (intro w h; obtain ⟨_, _, _⟩ := h; go_simp; with_reducible rfl)
        simp only [Act.put, lyA, lyB, lyC, lyD, lyE, lyF]
        refine JO 1 (v := ?vd1) I0 ?yd1 ?rd1
        case yd1 => (intro w h; obtain ⟨_, _, _⟩ := h; go_simp; with_reducible rfl)
        simp only [Act.put, lyA, lyB, lyC, lyD, lyE, lyF]
        refine JO 2 (v := ?vd2) I0 ?yd2 ?rd2
        case yd2 => (intro w h; obtain ⟨_, _, _⟩ := h; go_simp; with_reducible rfl)
        simp only [Act.put, lyA, lyB, lyC, lyD, lyE, lyF]
        refine JO 3 (v := ?vd3) I0 ?yd3 ?rd3
        case yd3 => (intro w h; obtain ⟨_, _, _⟩ := h; go_simp; with_reducible rfl)
        simp only [Act.put, lyA, lyB, lyC, lyD, lyE, lyF]
        refine JO 4 (v := ?vd4) I0 ?yd4 ?rd4
        case yd4 => (intro w h; obtain ⟨_, _, _⟩ := h; go_simp; with_reducible rfl)
        simp only [Act.put, lyA, lyB, lyC, lyD, lyE, lyF]
        refine JO 5 (v := ?vd5) I0 ?yd5 ?rd5
        case yd5 => (intro w h; obtain ⟨_, _, _⟩ := h; go_simp; with_reducible rfl)
        simp only [Act.put, lyA, lyB, lyC, lyD, lyE, lyF]
        refine JO 6 (v := ?vd6) I0 ?yd6 ?rd6
        case yd6 => (intro w h; obtain ⟨_, _, _⟩ := h; go_simp; with_reducible rfl)
        simp only [Act.put, lyA, lyB, lyC, lyD, lyE, lyF]
        refine JO 7 (v := ?vd7) I0 ?yd7 ?rd7
        case yd7 => (intro w h; obtain ⟨_, _, _⟩ := h; go_simp; with_reducible rfl)
        simp only [Act.put, lyA, lyB, lyC, lyD, lyE, lyF]
        refine JO 8 (v := ?vd8) I0 ?yd8 ?rd8
        case yd8 => (intro w h; obtain ⟨_, _, _⟩ := h; go_simp; with_reducible rfl)
        simp only [Act.put, lyA, lyB, lyC, lyD, lyE, lyF]
        refine JO 9 (v := ?vd9) I0 ?yd9 ?rd9
        case yd9 => (intro w h; obtain ⟨_, _, _⟩ := h; go_simp; with_reducible rfl)
        simp only [Act.put, lyA, lyB, lyC, lyD, lyE, lyF]
        refine JO 10 (v := ?vd10) I0 ?yd10 ?rd10
        case yd10 => (intro w h; obtain ⟨_, _, _⟩ := h; go_simp; with_reducible rfl)
        simp only [Act.put, lyA, lyB, lyC, lyD, lyE, lyF]
        refine JO 11 (v := ?vd11) I0 ?yd11 ?rd11
        case yd11 => (intro w h; obtain ⟨_, _, _⟩ := h; go_simp; with_reducible rfl)
        simp only [Act.put, lyA, lyB, lyC, lyD, lyE, lyF]
        refine J_one 12 rfl (by kernel_rfl) (fun K hK => ?_)
        go_simp
        refine hC'.out.mono ?_
        rintro e' w5 ⟨v5, rfl, own5, gr5⟩
        have hown5 := hid own5
        have hG5 := hid gr5
        have hG1 := hid (hG.out.trans gr5)
        clear own5 gr5
        obtain ⟨zl5, zk5, -, hkr5⟩ := hin.out w5 hG1.out.1
        have I5 : (fun w' : World => w'.cell? ⟨p, 0, none⟩ = some (.slice A l.length c) ∧ w'.cell? ⟨p, 1, none⟩ = some (.slice (some kad) ps.length kc) ∧ w'.cell? (kad.add l.length) = some (.pointer (some ⟨q, 0, none⟩))) w5 := ⟨zl5, zk5, rd_ptr hkr5 hq'.out⟩
        clear zl5 zk5 hkr5
        refine hK _ _ ⟨fun _ => I5, ?_⟩
        clear hK K
        try simp only [Act.put, lyA, lyB, lyC, lyD, lyE, lyF]
        refine J_one 13 rfl (by kernel_rfl) (fun K hK => ?_)
        go_simp
        refine hK _ _ ⟨fun _ => I5, ?_⟩
        clear hK K
        try simp only [Act.put, lyD, lyE, lyF]
        refine J_done (by kernel_rfl) (OnlyOn.normal ?_)
        go_wp2
        go_ret
        exact ⟨v5, rfl, by rw [hend.out, ← List.append_assoc, ← List.length_append, ← List.append_assoc]; exact hown5.out, hG1.out⟩
open Go.RowKit Go.Shelf Go.MuLone
theorem tree_set0 {w : World} {t : Nat} {a b c d : Value} (h : w.heap[t]? = some (.cells #[a, b, c, d] 57 (0, 0))) (u : Value) : (w.setCell ⟨t, 0, none⟩ u).heap[t]? = some (.cells #[u, b, c, d] 57 (0, 0)) := by
  simp [World.setCell, Array.getElem?_modify, h]
section
variable {lk lk' : Int} {w w' : World} {t h p : Nat} {L : List Te} {T : BT} {fT : Nat → Nat}
theorem TreeAt.ft (H : TreeAt lk w t L h p T fT) : fT t = 0 := by have := H.nd t; rw [one_self] at this; omega
theorem TreeAt.lock (H : TreeAt lk w t L h p T fT) (lk' : Int) : TreeAt lk' (w.setCell ⟨t, 0, none⟩ (.int .i32 lk')) t L h p T fT := by
  obtain ⟨q, hq⟩ := H.ht
  exact ⟨⟨q, tree_set0 hq _⟩, H.tn.setc H.ft, H.nd, H.sh, H.l4, H.l1, H.fl, H.sr, H.ok, H.le⟩
theorem TreeAt.c0 (H : TreeAt lk w t L h p T fT) : w.cell? ⟨t, 0, none⟩ = some (.int .i32 lk) := by obtain ⟨q, hq⟩ := H.ht; rw [Lib.cell_of_heap hq]; rfl
theorem TreeAt.c2 (H : TreeAt lk w t L h p T fT) : w.cell? ⟨t, 2, none⟩ = some (.pointer (some ⟨p, 0, none⟩)) := by obtain ⟨q, hq⟩ := H.ht; rw [Lib.cell_of_heap hq]; rfl
theorem TreeAt.free (H : TreeAt lk w t L h p T fT) (k : Nat) : w.frozen? ⟨t, k, none⟩ = false := by obtain ⟨q, hq⟩ := H.ht; exact Lib.frozen_of_heap hq k
theorem TreeAt.lt (H : TreeAt lk w t L h p T fT) : t < w.heap.size := by obtain ⟨q, hq⟩ := H.ht; exact (Array.getElem?_eq_some_iff.1 hq).1
theorem TreeTurned.unlock {L' : List Te} (H : TreeTurned 1 (w.setCell ⟨t, 0, none⟩ (.int .i32 1)) w' t fT L') : TreeTurned 0 w (w'.setCell ⟨t, 0, none⟩ (.int .i32 0)) t fT L' := by
  obtain ⟨h, p, T, f', H1, H2, H3⟩ := H
  refine ⟨h, p, T, f', H1.lock 0, fun a ha => H2 a (by simpa using ha), ?_⟩
  refine ((fr_set (b := t) (j := 0) (u := .int .i32 1)).mono (fun k _ h0 => ?_)).trans (H3.trans (fr_set (b := t)) (fun k _ h0 => ?_)) (fun k _ h0 => h0)
  · have h1 : one1 t k + fT k = 0 := h0; omega
  · have h1 : one1 t k + fT k = 0 := h0; omega
theorem TreeTurnedX.unlock {X : Nat × BT} {L' : List Te} (H : TreeTurnedX X 1 (w.setCell ⟨t, 0, none⟩ (.int .i32 1)) w' t fT L') : TreeTurnedX X 0 w (w'.setCell ⟨t, 0, none⟩ (.int .i32 0)) t fT L' := by
  obtain ⟨p, f', H1, H2, H3⟩ := H
  refine ⟨p, f', H1.lock 0, fun a ha => H2 a (by simpa using ha), ?_⟩
  refine ((fr_set (b := t) (j := 0) (u := .int .i32 1)).mono (fun k _ h0 => ?_)).trans (H3.trans (fr_set (b := t)) (fun k _ h0 => ?_)) (fun k _ h0 => h0)
  · have h1 : one1 t k + fT k = 0 := h0; omega
  · have h1 : one1 t k + fT k = 0 := h0; omega
theorem Ext.of_FR {f : Nat → Nat} (h : FR f w w') (h0 : ∀ a, a < w.heap.size → f a = 0) : Ext w w' := ⟨h.1.symm, h.2.1.symm, h.2.2.1.symm, h.2.2.2.1, fun k hk => h.2.2.2.2 k hk (h0 k hk)⟩
theorem TreeAt.back (H : TreeAt 0 w t L h p T fT) {u : Int} (hx : Ext (w.setCell ⟨t, 0, none⟩ (.int .i32 u)) w') : Ext w (w'.setCell ⟨t, 0, none⟩ (.int .i32 0)) := by
  obtain ⟨q, hq⟩ := H.ht
  have hb := (hx.block (k := t) (by simpa using H.lt)).trans (tree_set0 hq (.int .i32 u))
  refine ⟨hx.os, hx.tape, hx.output, ?_, fun k hk => ?_⟩
  · have := hx.size
    simp at this
    simpa using this
  · by_cases e : k = t
    · subst e
      rw [tree_set0 hb, hq]
    · have hne : t ≠ k := fun h => e h.symm
      rw [show (w'.setCell ⟨t, 0, none⟩ (.int .i32 0)).heap[k]? = w'.heap[k]? by simp [World.setCell, Array.getElem?_modify, hne], hx.block (k := k) (by simpa using hk)]
      simp [World.setCell, Array.getElem?_modify, hne]
end
theorem New_any (w : World) : Calls Tryz.prog 5 #[] w fun e w' => ∃ t, e = .returned (.pointer (some ⟨t, 0, none⟩)) ∧ w.heap.size ≤ t ∧ Ext w w' ∧ ∃ p fT, TreeAt 0 w' t [] 0 p (.nd [] []) fT ∧ ∀ a, a < w.heap.size → fT a = 0 := by
  have hx := hid (((Ext.refl w).alloc_right (.cells #[.slice none 0 0, .slice none 0 0] 48)).alloc_right (.cells #[.int .i32 0, .int .u32 0, .pointer (some ⟨w.heap.size, 0, none⟩), .int .i64 0] 57))
  have hp0 := heap_alloc_new w (.cells #[.slice none 0 0, .slice none 0 0] 48)
  have ht := heap_alloc_new (w.alloc (.cells #[.slice none 0 0, .slice none 0 0] 48)) (.cells #[.int .i32 0, .int .u32 0, .pointer (some ⟨w.heap.size, 0, none⟩), .int .i64 0] 57)
  have hp := (((Ext.refl (w.alloc (.cells #[.slice none 0 0, .slice none 0 0] 48))).alloc_right (.cells #[.int .i32 0, .int .u32 0, .pointer (some ⟨w.heap.size, 0, none⟩), .int .i64 0] 57)).block (Array.getElem?_eq_some_iff.1 hp0).1).trans hp0
  rw [World.size_alloc] at ht
  have hT : Hid (TreeAt 0 ((w.alloc (.cells #[.slice none 0 0, .slice none 0 0] 48)).alloc (.cells #[.int .i32 0, .int .u32 0, .pointer (some ⟨w.heap.size, 0, none⟩), .int .i64 0] 57)) (w.heap.size + 1) [] 0 w.heap.size (.nd [] []) (one1 w.heap.size)) := by
    have hnil : ∀ a, ob (.slice none 0 0) a = 0 := fun a => if_neg (by intro e; cases e)
    refine ⟨⟨0, ht⟩, ⟨rfl, _, _, hp, World.ownsRow_nil _ _ _ _, World.ownsRow_nil _ _ _ _, fun a => by rw [hnil a]; rfl⟩, fun a => ?_, rfl, Nat.zero_le _, fun h => absurd rfl h, rfl, List.Pairwise.nil, fun e h => (by cases h), Nat.zero_le _⟩
    by_cases e : a = w.heap.size
    · rw [show one1 (w.heap.size + 1) a = 0 from if_neg (by omega), show one1 w.heap.size a = 1 from if_pos e]; omega
    · rw [show one1 w.heap.size a = 0 from if_neg e]; unfold one1; split <;> omega
  clear hp0 ht hp
  go_enter Tryz.func5, Tryz.ntmps5
  go_wp2
  go_ret
  exact ⟨w.heap.size + 1, rfl, by omega, hx.out, w.heap.size, one1 w.heap.size, hT.out, fun a ha => if_neg (by omega)⟩
theorem PutX_any (t : Nat) (L : List Te) (h p : Nat) (T : BT) (fT : Nat → Nat) (s : ByteArray) (n : Int) (w : World) (H : TreeAt 0 w t L h p T fT) : Calls Tryz.prog 8 #[.pointer (some ⟨t, 0, none⟩), .string s, .int .i64 n] w fun e w' => e = .returned (.int .i64 (putEr L ⟨s, n⟩)) ∧ TreeTurnedX (putX h T L ⟨s, n⟩) 0 w w' t fT (putLs L ⟨s, n⟩) := by
  have c0 := H.c0
  have f0 := H.free 0
  have h1 := hid (H.lock 1)
  have hP := hid (tputX_any 1 t L h p T fT ⟨s, n⟩ _ (H.lock 1))
  generalize putEr L ⟨s, n⟩ = er at *
  generalize putLs L ⟨s, n⟩ = ls at *
  obtain ⟨X, hX⟩ : ∃ X, Hid (X = putX h T L ⟨s, n⟩) := ⟨_, rfl⟩
  rw [← hX.out] at hP ⊢
  clear hX
  go_enter_defers Tryz.func8, Tryz.ntmps8
  go_wp2_with (go_at_call 18; refine (lock_free muLib ⟨t, 0, none⟩ _ c0 f0).mono ?_; rintro e w' ⟨rfl, rfl⟩)
  refine hP.out.mono ?_
  rintro e w2 ⟨rfl, h2⟩
  have h2' := hid h2
  obtain ⟨p', f', H1, -, -⟩ := h2
  have k0 := hid H1.c0
  have kf := hid (H1.free 0)
  clear H1
  go_wp2
  refine leaves_cons (f := 19) (args := #[.pointer (some ⟨t, 0, none⟩)]) (by simp) (by simp [go_sem]) ?_
  refine (unlock_deferred muLib ⟨t, 0, none⟩ .returning _ k0.out kf.out).mono ?_
  rintro e u' w'' ⟨rfl, rfl, rfl⟩
  exact ⟨_, results_tmp rfl _ _ _, rfl, h2'.out.unlock⟩
theorem Put_any (t : Nat) (L : List Te) (h p : Nat) (T : BT) (fT : Nat → Nat) (s : ByteArray) (n : Int) (w : World) (H : TreeAt 0 w t L h p T fT) : Calls Tryz.prog 8 #[.pointer (some ⟨t, 0, none⟩), .string s, .int .i64 n] w fun e w' => e = .returned (.int .i64 (putEr L ⟨s, n⟩)) ∧ TreeTurned 0 w w' t fT (putLs L ⟨s, n⟩) :=
  (PutX_any t L h p T fT s n w H).mono fun _ _ ⟨he, hx⟩ => ⟨he, hx.out⟩
theorem entries_any (t : Nat) (L : List Te) (h p : Nat) (T : BT) (fT : Nat → Nat) (w : World) (H : TreeAt 0 w t L h p T fT) : Calls Tryz.prog 39 #[.pointer (some ⟨t, 0, none⟩)] w fun e w' => ∃ v, e = .returned v ∧ w'.ownsRow w.heap.size 65 2 v L.length (tents L) ∧ Ext w w' := by
  have c0 := H.c0
  have f0 := H.free 0
  have h1 := hid (H.lock 1)
  have hnil : ∀ a, ob (.slice none 0 0) a = 0 := fun a => if_neg (by intro e; cases e)
  have hA := hid (all_any h p T fT w.heap.size (.slice none 0 0) [] (w.setCell ⟨t, 0, none⟩ (.int .i32 1)) h1.out.tn h1.out.sh.w (fun a ha => by rw [hnil a] at ha; omega) (World.ownsRow_nil _ _ _ _) (by simp) (by rw [h1.out.fl]; have := h1.out.le; show 0 + L.length ≤ 100000; omega))
  rw [h1.out.fl, List.nil_append] at hA
  have hb := hid (fun w' (hx : Ext (w.setCell ⟨t, 0, none⟩ (.int .i32 1)) w') => H.back hx)
  have hlt := hid H.lt
  have c2 := h1.out.c2
  have l1 : t < (w.setCell ⟨t, 0, none⟩ (.int .i32 1)).heap.size := by simpa using H.lt
  replace hnil := hid hnil
  clear H
  go_enter_defers Tryz.func39, Tryz.ntmps39
  go_wp2_with (go_at_call 18; refine (lock_free muLib ⟨t, 0, none⟩ _ c0 f0).mono ?_; rintro e w' ⟨rfl, rfl⟩)
  generalize w.setCell ⟨t, 0, none⟩ (.int .i32 1) = w1 at *
  go_wp2_with fail
  refine hA.out.mono ?_
  rintro e w2 ⟨v, rfl, own2, gr2⟩
  have hx2 := Ext.of_FR gr2.1 (fun a _ => hnil.out a)
  have own2' := hid own2
  have k0 := hid (hx2.cell h1.out.c0)
  have kf : Hid (w2.frozen? ⟨t, 0, none⟩ = false) := (hx2.frozen (p := ⟨t, 0, none⟩) l1).trans (h1.out.free 0)
  have hx3 := hid (hb.out w2 hx2)
  clear own2 gr2 hx2
  go_wp2
  refine leaves_cons (f := 19) (args := #[.pointer (some ⟨t, 0, none⟩)]) (by simp) (by simp [go_sem]) ?_
  refine (unlock_deferred muLib ⟨t, 0, none⟩ .returning _ k0.out kf.out).mono ?_
  rintro e u' w'' ⟨rfl, rfl, rfl⟩
  exact ⟨_, results_tmp rfl _ _ _, _, rfl, own_set own2'.out (fun e => by have := own_freshB own2'.out _ e; have := hlt.out; omega) 0 _, hx3.out⟩
theorem Len_any (t : Nat) (L : List Te) (h p : Nat) (T : BT) (fT : Nat → Nat) (w : World) (H : TreeAt 0 w t L h p T fT) : Calls Tryz.prog 30 #[.pointer (some ⟨t, 0, none⟩)] w (Give (.int .i64 L.length) w) := by
  have hE := hid (entries_any t L h p T fT w H)
  clear H
  go_enter Tryz.func30, Tryz.ntmps30
  go_wp2_with fail
  refine hE.out.mono ?_
  rintro e w2 ⟨v, rfl, own2, hx⟩
  obtain ⟨A, c, rfl, -⟩ := own_form own2
  clear own2
  go_wp2
  go_ret
  exact ⟨rfl, hx⟩
open Go.RowKit Go.Shelf Go.MuLone
def takeEr (L : List Te) (x : Te) : Int := if okT x = true then if memT L x = true then 0 else 4 else 1
def takeLs (L : List Te) (x : Te) : List Te := if takeEr L x = 0 then delT L x else L
def takeX (h : Nat) (T : BT) (L : List Te) (x : Te) : Nat × BT := if takeEr L x = 0 then rootT h (takeT h T x) else (h, T)
theorem root_stay {h : Nat} {T : BT} (hr : h = 0 ∨ 1 ≤ T.l.length) : rootT h T = (h, T) := by
  obtain ⟨l, ks⟩ := T
  cases h with
  | zero => rfl
  | succ h =>
    rcases hr with h0 | h0
    · cases h0
    · rw [rootT, if_neg (fun e => by have h1 : 1 ≤ l.length := h0; rw [e] at h1; simp at h1)]
section
variable {lk : Int} {w w4 : World} {t h p q : Nat} {L : List Te} {T T' : BT} {fT f4 : Nat → Nat} {x : Te}
theorem take_stay (H : TreeAt lk w t L h p T fT) (hx : x ∈ L) (hT' : T' = takeT h T x) (tn4 : TN w4 h p T' f4) (nd4 : ∀ a, f4 a ≤ 1) (le4 : ∀ a, a < w.heap.size → f4 a ≤ fT a) (fr4 : FR fT w w4) (q0 : Int)
    (ht4 : w4.heap[t]? = some (.cells #[.int .i32 lk, .int .u32 q0, .pointer (some ⟨p, 0, none⟩), .int .i64 L.length] 57 (0, 0))) (hr : h = 0 ∨ 1 ≤ T'.l.length) :
    TreeTurnedX (h, T') lk w (w4.setCell ⟨t, 3, none⟩ (.int .i64 (delT L x).length)) t fT (delT L x) := by
  have hft : fT t = 0 := by have := H.nd t; rw [one_self] at this; omega
  have lt : t < w.heap.size := by obtain ⟨q, hq⟩ := H.ht; exact (Array.getElem?_eq_some_iff.1 hq).1
  have hf4 : f4 t = 0 := by have := le4 t lt; omega
  have ho := take_ok h T x H.sh H.l1 (by rw [H.fl]; exact H.sr) (by rw [H.fl]; exact hx)
  rw [← hT', H.fl] at ho
  have hl := len_del hx
  refine ⟨p, f4, ⟨⟨q0, tree_set3 ht4 _⟩, tn4.setc hf4, fun a => ?_, ho.1, by have := H.l4; have := ho.2.2.2; show T'.l.length ≤ 4; omega, fun h0 => by rcases hr with h1 | h1; exact absurd h1 h0; exact h1, ho.2.1, srt_del H.sr, fun e he => H.ok e (del_sub he), by have := H.le; omega⟩, le4, ?_⟩
  · by_cases e : a = t
    · subst e; rw [hf4, one_self]; exact Nat.le_refl _
    · rw [show one1 t a = 0 from if_neg e]; have := nd4 a; omega
  · exact (fr4.mono (fun k _ h0 => by have : one1 t k + fT k = 0 := h0; omega)).trans (fr_set (b := t)) (fun k _ h0 => by have : one1 t k + fT k = 0 := h0; omega)
theorem take_sink {h0 r : Nat} {ks : List BT} {f5 : Nat → Nat} (H : TreeAt lk w t L (h0 + 1) p T fT) (hx : x ∈ L) (hT' : BT.nd [] ks = takeT (h0 + 1) T x) (tn5 : TN w4 h0 r (kth ks 0) f5) (hle : ∀ a, f5 a ≤ f4 a) (nd4 : ∀ a, f4 a ≤ 1) (le4 : ∀ a, a < w.heap.size → f4 a ≤ fT a) (fr4 : FR fT w w4) (q0 : Int)
    (ht4 : w4.heap[t]? = some (.cells #[.int .i32 lk, .int .u32 q0, .pointer (some ⟨p, 0, none⟩), .int .i64 L.length] 57 (0, 0))) :
    TreeTurnedX (h0, kth ks 0) lk w ((w4.setCell ⟨t, 2, none⟩ (.pointer (some ⟨r, 0, none⟩))).setCell ⟨t, 3, none⟩ (.int .i64 (delT L x).length)) t fT (delT L x) := by
  have hft : fT t = 0 := by have := H.nd t; rw [one_self] at this; omega
  have lt : t < w.heap.size := by obtain ⟨q, hq⟩ := H.ht; exact (Array.getElem?_eq_some_iff.1 hq).1
  have hf5 : f5 t = 0 := by have := le4 t lt; have := hle t; omega
  have ho := take_ok (h0 + 1) T x H.sh H.l1 (by rw [H.fl]; exact H.sr) (by rw [H.fl]; exact hx)
  rw [← hT', H.fl] at ho
  have hro := root_ok ho.1 (by show 0 ≤ 4; omega)
  have er : rootT (h0 + 1) (BT.nd [] ks) = (h0, kth ks 0) := by rw [rootT, if_pos rfl]
  rw [er] at hro
  have hl := len_del hx
  refine ⟨r, f5, ⟨⟨q0, tree_set3 (tree_set2 ht4 _) _⟩, (tn5.setc hf5).setc hf5, fun a => ?_, hro.1, hro.2.2.1, hro.2.2.2, hro.2.1.trans ho.2.1, srt_del H.sr, fun e he => H.ok e (del_sub he), by have := H.le; omega⟩, fun a ha => Nat.le_trans (hle a) (le4 a ha), ?_⟩
  · by_cases e : a = t
    · subst e; rw [hf5, one_self]; exact Nat.le_refl _
    · rw [show one1 t a = 0 from if_neg e]; have := nd4 a; have := hle a; omega
  · have h1 : FR (fun a => one1 t a + fT a) w w4 := fr4.mono (fun k _ h0 => by have : one1 t k + fT k = 0 := h0; omega)
    exact (h1.trans (fr_set (b := t)) (fun k _ h0 => by have : one1 t k + fT k = 0 := h0; omega)).trans (fr_set (b := t)) (fun k _ h0 => by have : one1 t k + fT k = 0 := h0; omega)
end
theorem TakeX_any (t : Nat) (L : List Te) (h p : Nat) (T : BT) (fT : Nat → Nat) (s : ByteArray) (n : Int) (w : World) (H : TreeAt 0 w t L h p T fT) (er : Int) (ls : List Te) (hE : Hid (er = takeEr L ⟨s, n⟩)) (hLs : Hid (ls = takeLs L ⟨s, n⟩)) (X : Nat × BT) (hX : Hid (X = takeX h T L ⟨s, n⟩)) :
    Calls Tryz.prog 9 #[.pointer (some ⟨t, 0, none⟩), .string s, .int .i64 n] w fun e w' => e = .returned (.int .i64 er) ∧ TreeTurnedX X 0 w w' t fT ls := by
  have c0 := H.c0
  have f0 := H.free 0
  have H1 := hid (H.lock 1)
  have lt1 : t < (w.setCell ⟨t, 0, none⟩ (.int .i32 1)).heap.size := by simpa using H.lt
  clear H
  go_enter_defers Tryz.func9, Tryz.ntmps9
  go_wp2_with (go_at_call 18; refine (lock_free muLib ⟨t, 0, none⟩ _ c0 f0).mono ?_; rintro e w' ⟨rfl, rfl⟩)
  clear c0 f0
  generalize hwl : w.setCell ⟨t, 0, none⟩ (.int .i32 1) = wl at *
  replace hwl := hid hwl
  obtain ⟨⟨q0, ht0⟩, tn, nd, sh, l4, l1, fl, sr, ok, le⟩ := H1.out
  have hHas := hid (fun w' (hx : Ext wl w') => has_any h p T fT w' ⟨s, n⟩ (tn.ext hx) sh (by rw [fl]; exact sr) (by omega))
  rw [fl] at hHas
  have hTk := hid (fun w' (hx : Ext wl w') (hm : memT L ⟨s, n⟩ = true) => ntake_any h p T fT w' ⟨s, n⟩ (tn.ext hx) (fun a => by have := nd a; omega) sh l1 (by rw [fl]; exact sr) (by rw [fl]; exact memT_iff.1 hm) l4 _ rfl)
  have hx1 := hid ((Ext.refl wl).alloc_right (.cells #[.string s, .int .i64 n] 65))
  have ha := heap_alloc_new wl (.cells #[.string s, .int .i64 n] 65)
  have z0 : (wl.alloc (.cells #[.string s, .int .i64 n] 65)).cell? ⟨wl.heap.size, 0, none⟩ = some (.string s) := by rw [Lib.cell_of_heap ha]; rfl
  have z1 : (wl.alloc (.cells #[.string s, .int .i64 n] 65)).cell? ⟨wl.heap.size, 1, none⟩ = some (.int .i64 n) := by rw [Lib.cell_of_heap ha]; rfl
  have zt := hx1.out.cell H1.out.c2
  have lt0 := World.block_lt_of_cell? _ _ zt
  dsimp only at lt0
  have hft0 : Hid (fT t = 0) := by have := nd t; rw [one_self] at this; unfold Hid; omega
  have hfb0 : Hid (fT wl.heap.size = 0) := tn.bound _ (Nat.le_refl _)
  have hln := hid le
  replace ht0 := hid ht0
  clear ha tn nd sh l4 l1 fl sr ok le
  go_upto_region 6 with fail
  obtain ⟨b, hb0⟩ : ∃ b, b = w.heap.size := ⟨_, rfl⟩
  have hsz : wl.heap.size = w.heap.size := by rw [← hwl.out]; simp
  rw [hsz, ← hb0] at z0 z1 hfb0
  clear hsz
  simp only [← hb0]
  replace hb0 := hid hb0
  generalize wl.alloc (.cells #[.string s, .int .i64 n] 65) = w1 at *
  go_wp2_with fail
  refine (isEntry_any ⟨s, n⟩ w1).mono ?_
  rintro e' w2 ⟨rfl, hx2⟩
  replace z0 := hx2.cell z0
  replace z1 := hx2.cell z1
  replace zt := hx2.cell zt
  replace hx1 := hid (hx1.out.trans hx2)
  have lt2 := World.block_lt_of_cell? _ _ zt
  dsimp only at lt2
  clear hx2
  have hback := hid (fun w' (hx : Ext wl w') (h1 : ls = L) (h2 : X = (h, T)) => (show TreeTurnedX X 1 wl w' t fT ls by rw [h1, h2]; exact H1.out.sameX hx))
  cases hok : okT ⟨s, n⟩ with
  | false =>
    have hE1 : Hid (er = 1) := by unfold Hid; rw [hE.out]; unfold takeEr; rw [hok]; rfl
    have hL1 : Hid (ls = L) := by unfold Hid; rw [hLs.out]; unfold takeLs; rw [← hE.out, hE1.out]; rfl
    have hX1 : Hid (X = (h, T)) := by unfold Hid; rw [hX.out]; unfold takeX; rw [← hE.out, hE1.out]; rfl
    have hfin := hid (hback.out w2 hx1.out hL1.out hX1.out)
    obtain ⟨k0, kf⟩ : Hid (w2.cell? ⟨t, 0, none⟩ = some (.int .i32 1)) ∧ Hid (w2.frozen? ⟨t, 0, none⟩ = false) := by
      obtain ⟨p', f', H1, -, -⟩ := hfin.out
      exact ⟨H1.c0, H1.free 0⟩
    clear hX hX1 hE hLs hok hHas hTk hback H1 zt z0 z1
    go_wp2
    refine leaves_cons (f := 19) (args := #[.pointer (some ⟨t, 0, none⟩)]) (by simp) (by simp [go_sem]) ?_
    refine (unlock_deferred muLib ⟨t, 0, none⟩ .returning _ k0.out kf.out).mono ?_
    rintro e u' w'' ⟨rfl, rfl, rfl⟩
    exact ⟨_, results_tmp rfl _ _ _, by rw [hE1.out]; rfl, (by have h9 := hfin.out; rw [← hwl.out] at h9; exact h9.unlock)⟩
  | true =>
    go_upto_region 8 with fail
    have I0 : (fun w' : World => w'.cell? ⟨t, 2, none⟩ = some (.pointer (some ⟨p, 0, none⟩)) ∧ w'.cell? ⟨b, 0, none⟩ = some (.string s) ∧ w'.cell? ⟨b, 1, none⟩ = some (.int .i64 n)) w2.drew := ⟨zt, z0, z1⟩
    refine region_J (fun w' : World => w'.cell? ⟨t, 2, none⟩ = some (.pointer (some ⟨p, 0, none⟩)) ∧ w'.cell? ⟨b, 0, none⟩ = some (.string s) ∧ w'.cell? ⟨b, 1, none⟩ = some (.int .i64 n)) 7 (by kernel_rfl) ?_
    replace hx1 := hid (hx1.out.drew_right)
    clear zt z0 z1
    generalize w2.drew = w2 at *
    refine JO 0 (v := ?va0) I0 ?ya0 ?ra0
    case ya0 => (intro w h; obtain ⟨_, _, _⟩ := h; go_simp; with_reducible rfl)
    simp only [Act.put, lyA, lyB, lyC, lyD, lyE, lyF]
    refine JO 1 (v := ?va1) I0 ?ya1 ?ra1
    case ya1 => (intro w h; obtain ⟨_, _, _⟩ := h; go_simp; with_reducible rfl)
    simp only [Act.put, lyA, lyB, lyC, lyD, lyE, lyF]
    refine JO 2 (v := ?va2) I0 ?ya2 ?ra2
    case ya2 => (intro w h; obtain ⟨_, _, _⟩ := h; go_simp; with_reducible rfl)
    simp only [Act.put, lyA, lyB, lyC, lyD, lyE, lyF]
    refine JO 3 (v := ?va3) I0 ?ya3 ?ra3
    case ya3 => (intro w h; obtain ⟨_, _, _⟩ := h; go_simp; with_reducible rfl)
    simp only [Act.put, lyA, lyB, lyC, lyD, lyE, lyF]
    refine JO 4 (v := ?va4) I0 ?ya4 ?ra4
    case ya4 => (intro w h; obtain ⟨_, _, _⟩ := h; go_simp; with_reducible rfl)
    simp only [Act.put, lyA, lyB, lyC, lyD, lyE, lyF]
    refine J_one 5 rfl (by kernel_rfl) (fun K hK => ?_)
    go_simp
    refine (hHas.out w2 hx1.out).mono ?_
    rintro e' w3 ⟨rfl, hx3⟩
    have I3 : (fun w' : World => w'.cell? ⟨t, 2, none⟩ = some (.pointer (some ⟨p, 0, none⟩)) ∧ w'.cell? ⟨b, 0, none⟩ = some (.string s) ∧ w'.cell? ⟨b, 1, none⟩ = some (.int .i64 n)) w3 := ⟨hx3.cell I0.1, hx3.cell I0.2.1, hx3.cell I0.2.2⟩
    replace hx1 := hid (hx1.out.trans hx3)
    clear hx3 I0
    refine hK _ _ ⟨fun _ => I3, ?_⟩
    clear hK K
    try simp only [Act.put, lyA, lyB, lyC, lyD, lyE, lyF]
    refine J_one 6 rfl (by kernel_rfl) (fun K hK => ?_)
    go_simp
    refine hK _ _ ⟨fun _ => I3, ?_⟩
    clear hK K
    try simp only [Act.put, lyD, lyE, lyF]
    refine J_done (by kernel_rfl) (OnlyOn.normal ?_)
    cases hmm : memT L ⟨s, n⟩ with
    | false =>
      have hE1 : Hid (er = 4) := by unfold Hid; rw [hE.out]; unfold takeEr; rw [hok, hmm]; rfl
      have hL1 : Hid (ls = L) := by unfold Hid; rw [hLs.out]; unfold takeLs; rw [← hE.out, hE1.out]; rfl
      have hX1 : Hid (X = (h, T)) := by unfold Hid; rw [hX.out]; unfold takeX; rw [← hE.out, hE1.out]; rfl
      clear hmm
      have hfin := hid (hback.out w3 hx1.out hL1.out hX1.out)
      obtain ⟨k0, kf⟩ : Hid (w3.cell? ⟨t, 0, none⟩ = some (.int .i32 1)) ∧ Hid (w3.frozen? ⟨t, 0, none⟩ = false) := by
        obtain ⟨p', f', H1, -, -⟩ := hfin.out
        exact ⟨H1.c0, H1.free 0⟩
      clear hX hX1 hE hLs hok hHas hTk hback H1 I3
      go_wp2
      refine leaves_cons (f := 19) (args := #[.pointer (some ⟨t, 0, none⟩)]) (by simp) (by simp [go_sem]) ?_
      refine (unlock_deferred muLib ⟨t, 0, none⟩ .returning _ k0.out kf.out).mono ?_
      rintro e u' w'' ⟨rfl, rfl, rfl⟩
      exact ⟨_, results_tmp rfl _ _ _, by rw [hE1.out]; rfl, (by have h9 := hfin.out; rw [← hwl.out] at h9; exact h9.unlock)⟩
    | true =>
      have hE1 : Hid (er = 0) := by unfold Hid; rw [hE.out]; unfold takeEr; rw [hok, hmm]; rfl
      have hL1 : Hid (ls = delT L ⟨s, n⟩) := by unfold Hid; rw [hLs.out]; unfold takeLs; rw [← hE.out, hE1.out]; rfl
      have hxL := hid (memT_iff.1 hmm)
      replace hTk := hid (fun w' hx => hTk.out w' hx hmm)
      obtain ⟨T', hT'⟩ : ∃ T', Hid (T' = takeT h T ⟨s, n⟩) := ⟨_, rfl⟩
      rw [← hT'.out] at hTk
      have hX1 : Hid (X = rootT h T') := by unfold Hid; rw [hX.out]; unfold takeX; rw [← hE.out, hE1.out, ← hT'.out]; rfl
      clear hmm hHas
      go_upto_region 10 with fail
      have I0 : (fun w' : World => w'.cell? ⟨t, 2, none⟩ = some (.pointer (some ⟨p, 0, none⟩)) ∧ w'.cell? ⟨b, 0, none⟩ = some (.string s) ∧ w'.cell? ⟨b, 1, none⟩ = some (.int .i64 n)) w3.drew := I3
      refine region_J (fun w' : World => w'.cell? ⟨t, 2, none⟩ = some (.pointer (some ⟨p, 0, none⟩)) ∧ w'.cell? ⟨b, 0, none⟩ = some (.string s) ∧ w'.cell? ⟨b, 1, none⟩ = some (.int .i64 n)) 6 (by kernel_rfl) ?_
      replace hx1 := hid (hx1.out.drew_right)
      clear I3
      generalize w3.drew = w3 at *
      refine JO 0 (v := ?vb0) I0 ?yb0 ?rb0
      case yb0 => (intro w h; obtain ⟨_, _, _⟩ := h; go_simp; with_reducible rfl)
      simp only [Act.put, lyA, lyB, lyC, lyD, lyE, lyF]
      refine JO 1 (v := ?vb1) I0 ?yb1 ?rb1
      case yb1 => (intro w h; obtain ⟨_, _, _⟩ := h; go_simp; with_reducible rfl)
      simp only [Act.put, lyA, lyB, lyC, lyD, lyE, lyF]
      refine JO 2 (v := ?vb2) I0 ?yb2 ?rb2
      case yb2 => (intro w h; obtain ⟨_, _, _⟩ := h; go_simp; with_reducible rfl)
      simp only [Act.put, lyA, lyB, lyC, lyD, lyE, lyF]
      refine JO 3 (v := ?vb3) I0 ?yb3 ?rb3
      case yb3 => (intro w h; obtain ⟨_, _, _⟩ := h; go_simp; with_reducible rfl)
      simp only [Act.put, lyA, lyB, lyC, lyD, lyE, lyF]
      refine JO 4 (v := ?vb4) I0 ?yb4 ?rb4
      case yb4 => (intro w h; obtain ⟨_, _, _⟩ := h; go_simp; with_reducible rfl)
      simp only [Act.put, lyA, lyB, lyC, lyD, lyE, lyF]
      refine J_one 5 rfl (by kernel_rfl) (fun K hK => ?_)
      go_simp
      refine (hTk.out w3 hx1.out).mono ?_
      rintro e' w4 ⟨rfl, ht⟩
      obtain ⟨f4, tn4, nd4, le4, fr4⟩ := ht
      have hbc : ∀ (j : Addr) (u : Value), fT j.block = 0 → w3.cell? j = some u → w4.cell? j = some u := fun j u hj hu => by
        rw [World.cell?_of_block (fr4.2.2.2.2 j.block (World.block_lt_of_cell? _ _ hu) hj)]
        exact hu
      have I4 : (fun w' : World => w'.cell? ⟨t, 2, none⟩ = some (.pointer (some ⟨p, 0, none⟩)) ∧ w'.cell? ⟨b, 0, none⟩ = some (.string s) ∧ w'.cell? ⟨b, 1, none⟩ = some (.int .i64 n)) w4 := ⟨hbc _ _ hft0.out I0.1, hbc _ _ hfb0.out I0.2.1, hbc _ _ hfb0.out I0.2.2⟩
      have ht4 : Hid (w4.heap[t]? = some (.cells #[.int .i32 1, .int .u32 q0, .pointer (some ⟨p, 0, none⟩), .int .i64 L.length] 57 (0, 0))) := by
        have h0 := (hx1.out.block (Array.getElem?_eq_some_iff.1 ht0.out).1).trans ht0.out
        exact (fr4.2.2.2.2 t (Array.getElem?_eq_some_iff.1 h0).1 hft0.out).trans h0
      replace tn4 := hid tn4
      replace nd4 := hid nd4
      replace le4 : Hid (∀ a, a < wl.heap.size → f4 a ≤ fT a) := fun a ha => le4 a (Nat.lt_of_lt_of_le ha hx1.out.size)
      replace fr4 : Hid (FR fT wl w4) := (FR.of_ext hx1.out).trans fr4 (fun _ _ h => h)
      clear hbc I0 hTk hx1 ht0
      refine hK _ _ ⟨fun _ => I4, ?_⟩
      clear hK K
      try simp only [Act.put, lyA, lyB, lyC, lyD, lyE, lyF]
      refine J_done (by kernel_rfl) (OnlyOn.normal ?_)
      have hdl := hid (len_del hxL.out)
      have c2 : w4.cell? ⟨t, 2, none⟩ = some (.pointer (some ⟨p, 0, none⟩)) := by rw [Lib.cell_of_heap ht4.out]; rfl
      have c3 : w4.cell? ⟨t, 3, none⟩ = some (.int .i64 L.length) := by rw [Lib.cell_of_heap ht4.out]; rfl
      have fz3 := Lib.frozen_of_heap ht4.out 3
      have lt4 := (Array.getElem?_eq_some_iff.1 ht4.out).1
      have hw1 : IntKind.i64.wrap ((L.length : Int) - 1) = ((delT L ⟨s, n⟩).length : Int) := by have := hln.out; have := hdl.out; rw [IntWalk.i64_in _ (by omega)]; omega
      have hw2 : ((L.length : Int) - 1) = ((delT L ⟨s, n⟩).length : Int) := by have := hdl.out; omega
      have hbl : Hid (L.length ≤ 10000) := hln.out
      have hL0 : (L.length : Int) ≤ 10000 := by have := hln.out; omega
      obtain ⟨l', ks'⟩ := T'
      obtain ⟨A, c, kA, kn, kc, d0, d1, hrd, hk0⟩ := tn4.out.cells
      have hmr := Rd.max hrd
      have lp4 := World.block_lt_of_cell? _ _ d0
      dsimp only at lp4
      clear I4 hrd
      by_cases hl0 : 1 ≤ l'.length
      · have hne : ((l'.length : Int) == 0) = false := by rw [beq_eq_false_iff_ne]; omega
        have hfin9 := hid (take_stay H1.out hxL.out hT'.out tn4.out nd4.out le4.out fr4.out q0 ht4.out (.inr hl0))
        have hfin := hid ((show TreeTurnedX X 1 wl (w4.setCell ⟨t, 3, none⟩ (.int .i64 (delT L ⟨s, n⟩).length)) t fT ls by rw [hL1.out, hX1.out, root_stay (T := .nd l' ks') (.inr hl0)]; exact hfin9.out))
        obtain ⟨k0, kf⟩ : Hid ((w4.setCell ⟨t, 3, none⟩ (.int .i64 (delT L ⟨s, n⟩).length)).cell? ⟨t, 0, none⟩ = some (.int .i32 1)) ∧ Hid ((w4.setCell ⟨t, 3, none⟩ (.int .i64 (delT L ⟨s, n⟩).length)).frozen? ⟨t, 0, none⟩ = false) := by
          obtain ⟨p', f', H1, -, -⟩ := hfin.out
          exact ⟨H1.c0, H1.free 0⟩
        clear hE hLs hok hback hfin9 hX hX1 tn4 nd4 le4 fr4 ht4 hT'
        go_wp2
        refine leaves_cons (f := 19) (args := #[.pointer (some ⟨t, 0, none⟩)]) (by simp) (by simp [go_sem]) ?_
        refine (unlock_deferred muLib ⟨t, 0, none⟩ .returning _ k0.out kf.out).mono ?_
        rintro e u' w'' ⟨rfl, rfl, rfl⟩
        exact ⟨_, results_tmp rfl _ _ _, by rw [hE1.out]; rfl, (by have h9 := hfin.out; rw [← hwl.out] at h9; exact h9.unlock)⟩
      · obtain rfl : l' = [] := List.eq_nil_of_length_eq_zero (by omega)
        cases h with
        | zero =>
          obtain rfl := hk0 rfl
          have hfin9 := hid (take_stay H1.out hxL.out hT'.out tn4.out nd4.out le4.out fr4.out q0 ht4.out (.inl rfl))
          have hfin := hid ((show TreeTurnedX X 1 wl (w4.setCell ⟨t, 3, none⟩ (.int .i64 (delT L ⟨s, n⟩).length)) t fT ls by rw [hL1.out, hX1.out, root_stay (.inl rfl)]; exact hfin9.out))
          obtain ⟨k0, kf⟩ : Hid ((w4.setCell ⟨t, 3, none⟩ (.int .i64 (delT L ⟨s, n⟩).length)).cell? ⟨t, 0, none⟩ = some (.int .i32 1)) ∧ Hid ((w4.setCell ⟨t, 3, none⟩ (.int .i64 (delT L ⟨s, n⟩).length)).frozen? ⟨t, 0, none⟩ = false) := by
            obtain ⟨p', f', H1, -, -⟩ := hfin.out
            exact ⟨H1.c0, H1.free 0⟩
          clear hE hLs hok hback hfin9 hX hX1 tn4 nd4 le4 fr4 ht4 hT'
          go_wp2
          refine leaves_cons (f := 19) (args := #[.pointer (some ⟨t, 0, none⟩)]) (by simp) (by simp [go_sem]) ?_
          refine (unlock_deferred muLib ⟨t, 0, none⟩ .returning _ k0.out kf.out).mono ?_
          rintro e u' w'' ⟨rfl, rfl, rfl⟩
          exact ⟨_, results_tmp rfl _ _ _, by rw [hE1.out]; rfl, (by have h9 := hfin.out; rw [← hwl.out] at h9; exact h9.unlock)⟩
        | succ h0 =>
          obtain ⟨lv, kv, ps, g, e1, e2, e3, e5, e4⟩ := tn4.out
          have hsh := take_ok (h0 + 1) T ⟨s, n⟩ H1.out.sh H1.out.l1 (by rw [H1.out.fl]; exact H1.out.sr) (by rw [H1.out.fl]; exact hxL.out)
          rw [← hT'.out] at hsh
          have hks1 : ks'.length = 1 := hsh.1.1
          have hpl := e5.len
          obtain ⟨r, g0, g1, g2, hpi, hKq, -, -, hg⟩ := Ks.cut e5 (kth_some (show 0 < ks'.length by omega))
          obtain ⟨kA2, kc2, rfl, hkr⟩ := own_rd e3
          obtain ⟨kad, rfl, -⟩ := hkr.2.2.2 (by omega)
          have d1' := node_c1 e1
          clear d1 hk0
          have d2 := own_ptr0 e3 hpi
          have hk1 : (0 : Int) < (ps.length : Int) := by omega
          have hk2 : 0 < ps.length := by omega
          have hfin9 := hid (take_sink (r := r) H1.out hxL.out hT'.out hKq (fun a => by rw [e4 a, hg a]; omega) nd4.out le4.out fr4.out q0 ht4.out)
          have fz2 := Lib.frozen_of_heap ht4.out 2
          have c4 : (w4.setCell ⟨t, 2, none⟩ (.pointer (some ⟨r, 0, none⟩))).cell? ⟨t, 3, none⟩ = some (.int .i64 L.length) := set_keep c3 (off_ne (by decide))
          have fz4 : (w4.setCell ⟨t, 2, none⟩ (.pointer (some ⟨r, 0, none⟩))).frozen? ⟨t, 3, none⟩ = false := (World.frozen?_setCell _ _ _ _).trans fz3
          clear e1 e2 e3 e4 e5 hkr hpl hks1 hsh hpi hKq hg
          have hfin := hid ((show TreeTurnedX X 1 wl ((w4.setCell ⟨t, 2, none⟩ (.pointer (some ⟨r, 0, none⟩))).setCell ⟨t, 3, none⟩ (.int .i64 (delT L ⟨s, n⟩).length)) t fT ls by rw [hL1.out, hX1.out, show rootT (h0 + 1) (BT.nd [] ks') = (h0, kth ks' 0) by rw [rootT, if_pos rfl]]; exact hfin9.out))
          obtain ⟨k0, kf⟩ : Hid (((w4.setCell ⟨t, 2, none⟩ (.pointer (some ⟨r, 0, none⟩))).setCell ⟨t, 3, none⟩ (.int .i64 (delT L ⟨s, n⟩).length)).cell? ⟨t, 0, none⟩ = some (.int .i32 1)) ∧ Hid (((w4.setCell ⟨t, 2, none⟩ (.pointer (some ⟨r, 0, none⟩))).setCell ⟨t, 3, none⟩ (.int .i64 (delT L ⟨s, n⟩).length)).frozen? ⟨t, 0, none⟩ = false) := by
            obtain ⟨p', f', H1, -, -⟩ := hfin.out
            exact ⟨H1.c0, H1.free 0⟩
          clear hE hLs hok hback hfin9 hX hX1 tn4 nd4 le4 fr4 ht4 hT'
          go_wp2
          refine leaves_cons (f := 19) (args := #[.pointer (some ⟨t, 0, none⟩)]) (by simp) (by simp [go_sem]) ?_
          refine (unlock_deferred muLib ⟨t, 0, none⟩ .returning _ k0.out kf.out).mono ?_
          rintro e u' w'' ⟨rfl, rfl, rfl⟩
          exact ⟨_, results_tmp rfl _ _ _, by rw [hE1.out]; rfl, (by have h9 := hfin.out; rw [← hwl.out] at h9; exact h9.unlock)⟩
theorem Take_any (t : Nat) (L : List Te) (h p : Nat) (T : BT) (fT : Nat → Nat) (s : ByteArray) (n : Int) (w : World) (H : TreeAt 0 w t L h p T fT) (er : Int) (ls : List Te) (hE : Hid (er = takeEr L ⟨s, n⟩)) (hLs : Hid (ls = takeLs L ⟨s, n⟩)) :
    Calls Tryz.prog 9 #[.pointer (some ⟨t, 0, none⟩), .string s, .int .i64 n] w fun e w' => e = .returned (.int .i64 er) ∧ TreeTurned 0 w w' t fT ls :=
  (TakeX_any t L h p T fT s n w H er ls hE hLs _ rfl).mono fun _ _ ⟨he, hx⟩ => ⟨he, hx.out⟩
open Go.RowKit Go.Shelf
theorem search_any (n r fid : Nat) (x y : Value) (Q : Nat → Bool) (w : World) (hn : n ≤ 1000000) (hr : r ≤ n) (en : ∀ (a : Value) (w : World), (callFunc fid #[a, x, y]).run Tryz.prog w = .ok (.enter fid #[a, x, y]) w)
    (hC : Hid (∀ (k : Nat) (w' : World), k < n → Ext w w' → Calls Tryz.prog fid #[.int .i64 k, x, y] w' (Give (.bool (Q k)) w'))) (h1 : Hid (∀ t, t < r → Q t = false)) (h2 : Hid (∀ t, r ≤ t → t < n → Q t = true)) : Calls Tryz.prog 94 #[.int .i64 n, .func (.func fid) #[] #[x, y]] w (Give (.int .i64 r) w) := by
  go_enter Tryz.func94, Tryz.ntmps94
  go_wp2_with fail
  go_loopw [5, 6] (fun i j wr => ∃ lo hi : Nat, i = .int .i64 lo ∧ j = .int .i64 hi ∧ lo ≤ r ∧ r ≤ hi ∧ hi ≤ n ∧ Hid (Ext w wr)) (fun i j _ => (intOf j).toNat - (intOf i).toNat)
  case atStart => exact ⟨0, n, rfl, rfl, by omega, by omega, by omega, Ext.refl _⟩
  case round =>
    obtain ⟨lo, hi, rfl, rfl, hle, hri, hhi, hx⟩ := hrel
    by_cases hlt : lo < hi
    · obtain ⟨md, hmd⟩ : ∃ md, md = (lo + hi) / 2 := ⟨_, rfl⟩
      have hm1 : lo ≤ md ∧ md < hi := by omega
      have hms : ((lo : Int) + (hi : Int)) / 2 = (md : Int) := by omega
      have hcl := hid (hC.out md wr (by omega) hx.out)
      by_cases hmr : md < r
      · rw [h1.out md hmr] at hcl
        replace hmd := hid hmd
        go_wp2_with fail
        refine (hcl.out).mono ?_
        rintro e w3 ⟨rfl, hx3⟩
        replace hx := hid (hx.out.trans hx3)
        clear hx3 hcl
        go_wp2_with fail
        go_roundw
        case rel => exact ⟨md + 1, hi, by go_num, rfl, by omega, hri, hhi, hx⟩
        case measure => simp [intOf]; omega
      · rw [h2.out md (by omega) (by omega)] at hcl
        replace hmd := hid hmd
        go_wp2_with fail
        refine (hcl.out).mono ?_
        rintro e w3 ⟨rfl, hx3⟩
        replace hx := hid (hx.out.trans hx3)
        clear hx3 hcl
        go_wp2_with fail
        go_roundw
        case rel => exact ⟨lo, md, rfl, rfl, hle, by omega, by omega, hx⟩
        case measure => simp [intOf]; omega
    · obtain rfl : lo = r := by omega
      obtain rfl : hi = lo := by omega
      go_wp2
      go_ret
      exact ⟨rfl, hx.out⟩
theorem fromC_any (A : Option Addr) (n c p q k : Nat) (l : List Te) (e : Te) (w : World) (hl : RdN w A n c l) (hk : k < n) (hn : n ≤ 1000000) (hp : w.cell? ⟨p, 0, none⟩ = some (.slice A n c)) (h0 : w.cell? ⟨q, 0, none⟩ = some (.string e.key)) (h1 : w.cell? ⟨q, 1, none⟩ = some (.int .i64 e.no)) : Calls Tryz.prog 95 #[.int .i64 k, .pointer (some ⟨p, 0, none⟩), .pointer (some ⟨q, 0, none⟩)] w (Give (.bool (decide (0 ≤ cmpT (tth l k) e))) w) := by
  obtain ⟨ad, rfl, x0, x1⟩ := hl.at_ hk
  have hmx := Rd.max hl
  have hkn : (k : Int) < (n : Int) := by omega
  generalize tth l k = x at *
  replace hl := hid hl
  go_enter Tryz.func95, Tryz.ntmps95
  go_upto_region 1 with fail
  have I0 : (fun w' : World => w'.cell? ⟨p, 0, none⟩ = some (.slice (some ad) n c) ∧ w'.cell? (ad.add (k * 2)) = some (.string x.key) ∧ w'.cell? ⟨(ad.add (k * 2)).block, (ad.add (k * 2)).off + 1, none⟩ = some (.int .i64 x.no) ∧ w'.cell? ⟨q, 0, none⟩ = some (.string e.key) ∧ w'.cell? ⟨q, 1, none⟩ = some (.int .i64 e.no)) w.drew := ⟨hp, x0, x1, h0, h1⟩
  have hx := hid ((Ext.refl w).drew_right)
  refine region_J (fun w' : World => w'.cell? ⟨p, 0, none⟩ = some (.slice (some ad) n c) ∧ w'.cell? (ad.add (k * 2)) = some (.string x.key) ∧ w'.cell? ⟨(ad.add (k * 2)).block, (ad.add (k * 2)).off + 1, none⟩ = some (.int .i64 x.no) ∧ w'.cell? ⟨q, 0, none⟩ = some (.string e.key) ∧ w'.cell? ⟨q, 1, none⟩ = some (.int .i64 e.no)) 8 (by kernel_rfl) ?_
  clear hp x0 x1 h0 h1
  generalize w.drew = w1 at *
  refine JO 0 (v := ?vc0) I0 ?yc0 ?rc0
  case yc0 => (intro w h; obtain ⟨_, _, _, _, _⟩ := h; go_simp; with_reducible rfl)
  simp only [Act.put, lyA, lyB, lyC, lyD, lyE, lyF]
  refine JO 1 (v := ?vc1) I0 ?yc1 ?rc1
  case yc1 => (intro w h; obtain ⟨_, _, _, _, _⟩ := h; go_simp; with_reducible rfl)
  simp only [Act.put, lyA, lyB, lyC, lyD, lyE, lyF]
  refine JO 2 (v := ?vc2) I0 ?yc2 ?rc2
  case yc2 => (intro w h; obtain ⟨_, _, _, _, _⟩ := h; go_simp; with_reducible rfl)
  simp only [Act.put, lyA, lyB, lyC, lyD, lyE, lyF]
  refine JO 3 (v := ?vc3) I0 ?yc3 ?rc3
  case yc3 => (intro w h; obtain ⟨_, _, _, _, _⟩ := h; go_simp; with_reducible rfl)
  simp only [Act.put, lyA, lyB, lyC, lyD, lyE, lyF]
  refine JO 4 (v := ?vc4) I0 ?yc4 ?rc4
  case yc4 => (intro w h; obtain ⟨_, _, _, _, _⟩ := h; go_simp; with_reducible rfl)
  simp only [Act.put, lyA, lyB, lyC, lyD, lyE, lyF]
  refine J_one 5 rfl (by kernel_rfl) (fun K hK => ?_)
  go_simp
  refine (compare_any x e _ ).mono ?_
  rintro e' w5 ⟨rfl, hx5⟩
  have I5 : (fun w' : World => w'.cell? ⟨p, 0, none⟩ = some (.slice (some ad) n c) ∧ w'.cell? (ad.add (k * 2)) = some (.string x.key) ∧ w'.cell? ⟨(ad.add (k * 2)).block, (ad.add (k * 2)).off + 1, none⟩ = some (.int .i64 x.no) ∧ w'.cell? ⟨q, 0, none⟩ = some (.string e.key) ∧ w'.cell? ⟨q, 1, none⟩ = some (.int .i64 e.no)) w5 := ⟨hx5.cell I0.1, hx5.cell I0.2.1, hx5.cell I0.2.2.1, hx5.cell I0.2.2.2.1, hx5.cell I0.2.2.2.2⟩
  have hx6 := hid (hx.out.trans hx5)
  clear hx5
  refine hK _ _ ⟨fun _ => I5, ?_⟩
  clear hK K
  try simp only [Act.put, lyA, lyB, lyC, lyD, lyE, lyF]
  refine JO 6 (v := ?vce6) I5 ?yce6 ?rce6
  case yce6 => (intro w h; obtain ⟨_, _, _, _, _⟩ := h; go_simp; with_reducible rfl)
  simp only [Act.put, lyA, lyB, lyC, lyD, lyE, lyF]
  refine J_one 7 rfl (by kernel_rfl) (fun K hK => ?_)
  go_simp
  refine hK _ _ ⟨fun _ => I5, ?_⟩
  clear hK K
  try simp only [Act.put, lyD, lyE, lyF]
  refine J_done (by kernel_rfl) (OnlyOn.normal ?_)
  generalize cmpT x e = z at *
  go_wp2
  go_ret
  exact ⟨by first | rfl | (congr 2; simp), hx6.out⟩
theorem from_any (A : Option Addr) (n c : Nat) (l : List Te) (e : Te) (w : World) (hl : RdN w A n c l) (hS : Srt l) (hn : n ≤ 1000000) : Calls Tryz.prog 60 #[.slice A n c, .agg #[.string e.key, .int .i64 e.no]] w (Give (.int .i64 (rankT l e)) w) := by
  have hlen := hl.len
  have hx := hid (((Ext.refl w).alloc_right (.cells #[.slice A n c] 45)).alloc_right (.cells #[.string e.key, .int .i64 e.no] 65))
  have hp0 := heap_alloc_new w (.cells #[.slice A n c] 45)
  have hq := heap_alloc_new (w.alloc (.cells #[.slice A n c] 45)) (.cells #[.string e.key, .int .i64 e.no] 65)
  have hp := (((Ext.refl (w.alloc (.cells #[.slice A n c] 45))).alloc_right (.cells #[.string e.key, .int .i64 e.no] 65)).block (Array.getElem?_eq_some_iff.1 hp0).1).trans hp0
  rw [World.size_alloc] at hq
  obtain ⟨r1, r2, r3⟩ := rank_cut hS e
  have en : ∀ (x y a : Value) (w : World), (callFunc 95 #[a, x, y]).run Tryz.prog w = .ok (.enter 95 #[a, x, y]) w := fun x y a w => by kernel_rfl
  have hQ1 : Hid (∀ t, t < rankT l e → decide (0 ≤ cmpT (tth l t) e) = false) := fun t ht => by
    have := r2 (tth l t) (by rw [tth_get (by omega)]; exact List.mem_take_iff_getElem.2 ⟨t, by omega, rfl⟩)
    exact decide_eq_false (by omega)
  have hQ2 : Hid (∀ t, rankT l e ≤ t → t < n → decide (0 ≤ cmpT (tth l t) e) = true) := fun t ht htn => by
    have := r3 (tth l t) (by rw [tth_get (by omega)]; exact List.mem_drop_iff_getElem.2 ⟨t - rankT l e, by omega, by congr 1; omega⟩)
    exact decide_eq_true (by omega)
  have hC : Hid (∀ w1, Ext ((w.alloc (.cells #[.slice A n c] 45)).alloc (.cells #[.string e.key, .int .i64 e.no] 65)) w1 → Calls Tryz.prog 94 #[.int .i64 n, .func (.func 95) #[] #[.pointer (some ⟨w.heap.size, 0, none⟩), .pointer (some ⟨w.heap.size + 1, 0, none⟩)]] w1 (Give (.int .i64 (rankT l e)) w1)) := fun w1 hx1 => by
    refine search_any n (rankT l e) 95 _ _ _ w1 hn (by omega) (en _ _) (fun k w' hk hx' => fromC_any A n c _ _ k l e w' (hl.ext (hx.out.trans (hx1.trans hx'))) hk hn ?_ ?_ ?_) hQ1 hQ2
    · exact (hx1.trans hx').cell (by rw [Lib.cell_of_heap hp]; rfl)
    · exact (hx1.trans hx').cell (by rw [Lib.cell_of_heap hq]; rfl)
    · exact (hx1.trans hx').cell (by rw [Lib.cell_of_heap hq]; rfl)
  have zp : ((w.alloc (.cells #[.slice A n c] 45)).alloc (.cells #[.string e.key, .int .i64 e.no] 65)).cell? ⟨w.heap.size, 0, none⟩ = some (.slice A n c) := by rw [Lib.cell_of_heap hp]; rfl
  have lz := World.block_lt_of_cell? _ _ zp
  dsimp only at lz
  have hmx := Rd.max hl
  generalize rankT l e = r at *
  clear r1 r2 r3 hp hq hp0 hQ1 hQ2 hl hlen hS
  go_enter Tryz.func60, Tryz.ntmps60
  go_upto_region 1 with fail
  generalize (w.alloc (.cells #[.slice A n c] 45)).alloc (.cells #[.string e.key, .int .i64 e.no] 65) = w1 at *
  go_wp2_with fail
  refine (hC.out _ (Ext.refl _)).mono ?_
  rintro e' w3 ⟨rfl, hx3⟩
  go_wp2
  go_ret
  exact ⟨rfl, hx.out.trans hx3⟩
theorem Rank_any (t : Nat) (L : List Te) (h p : Nat) (T : BT) (fT : Nat → Nat) (s : ByteArray) (i : Int) (w : World) (H : TreeAt 0 w t L h p T fT) : Calls Tryz.prog 31 #[.pointer (some ⟨t, 0, none⟩), .string s, .int .i64 i] w (Give (.int .i64 (rankT L ⟨s, i⟩)) w) := by
  have hE := hid (entries_any t L h p T fT w H)
  have hsr := hid H.sr
  have hle := hid H.le
  clear H
  go_enter Tryz.func31, Tryz.ntmps31
  go_wp2_with fail
  refine hE.out.mono ?_
  rintro e w2 ⟨v, rfl, own2, hx⟩
  obtain ⟨A, c, rfl, -⟩ := own_form own2
  have hF := hid (from_any A L.length c L ⟨s, i⟩ w2 (Rd.of_own own2) hsr.out (by have := hle.out; omega))
  generalize rankT L ⟨s, i⟩ = r at *
  clear own2
  go_wp2_with fail
  refine hF.out.mono ?_
  rintro e w3 ⟨rfl, hx3⟩
  go_wp2
  go_ret
  exact ⟨rfl, hx.trans hx3⟩
end Go.Proofs.YtjjikkhhlpikbaaGreatDoor
