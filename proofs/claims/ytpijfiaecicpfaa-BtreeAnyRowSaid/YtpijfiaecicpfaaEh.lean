/-
  Taking an entry out of a node.
-/
import Derived.Test.YtpijfiaecicpfaaEg
namespace Go.Proofs.Ytpijfiaecicpfaa
open Go.RowKit Go.Shelf
set_option linter.unusedVariables false
set_option linter.unusedSimpArgs false
/-- A node one of whose kids has turned, and then its own entries. -/
theorem kid_row {W1 W2 : World} {h p q i : Nat} {l' : List Te} {ks : List BT} {ps : List Nat} {lv kv : Value} {g0 g1' g2 : Nat → Nat} {K' : BT} (t1 : TN W1 h q K' g1') (t2 : W1.heap[p]? = some (.cells #[lv, kv] 105 (0, 0))) (t4 : W1.ownsRow 0 81 1 kv ps.length (ptrs ps)) (t5 : Ks (TN W1 h) (ps.take i) (ks.take i) g0) (t6 : Ks (TN W1 h) (ps.drop (i + 1)) (ks.drop (i + 1)) g2) (t7 : ∀ a, one1 p a + ob lv a + ob kv a + (g0 a + g1' a + g2 a) ≤ 1) (hpi : ps[i]? = some q) (hi : i < ks.length)
    (hg : W1.grownBy W2 lv.ownBlock) (ho : W2.ownsRow 0 71 2 lv l'.length (tents l')) :
    TN W2 (h + 1) p (.nd l' (ks.set i K')) (fun a => one1 p a + ob lv a + ob kv a + (g0 a + g1' a + g2 a)) ∧ FR (ob lv) W1 W2 := by
  have hF : FR (ob lv) W1 W2 := fr_grow (FR.of_ext (Ext.refl W1)) hg (fun k e _ h0 => by rw [ob_some e] at h0; cases h0)
  have z : ∀ a, 0 < one1 p a + ob kv a + (g0 a + g1' a + g2 a) → ob lv a = 0 := fun a ha => by have := t7 a; omega
  refine ⟨kid_shut (t1.frame hF (fun a ha => z a (by omega))) ((hF.2.2.2.2 p (Array.getElem?_eq_some_iff.1 t2).1 (z p (by rw [one_self]; omega))).trans t2) ho (hF.own t4 (fun k e => z k (by rw [ob_some e]; omega))) (Ks.frame (fun _ _ _ h1 h2 => TN.frame hF h1 h2) t5 (fun a ha => z a (by omega))) (Ks.frame (fun _ _ _ h1 h2 => TN.frame hF h1 h2) t6 (fun a ha => z a (by omega))) hpi hi, hF⟩
set_option maxRecDepth 100000 in
set_option maxHeartbeats 4000000 in
theorem ntake_any : ∀ (h p : Nat) (T : BT) (f : Nat → Nat) (w : World) (e : Te), TN w h p T f → (∀ a, f a ≤ 1) → Shp h T → (h ≠ 0 → 1 ≤ T.l.length) → Srt (flat h T) → e ∈ flat h T → T.l.length ≤ 4 → ∀ T' : BT, Hid (T' = takeT h T e) →
    Calls Try.prog 62 #[.pointer (some ⟨p, 0, none⟩), .agg #[.string e.key, .int .i64 e.no]] w fun e' w' => e' = .returned (.tuple #[]) ∧ Turned w w' h p f T' := by
  intro h
  induction h with
  | zero =>
    intro p T f w e hT hn hs h1 hS he hl T' hT'
    have hSl : Srt T.l := by obtain ⟨l, ks⟩ := T; exact hS
    have heT : e ∈ T.l := by obtain ⟨l, ks⟩ := T; exact he
    obtain ⟨l, ks⟩ := T
    replace hSl : Srt l := hSl
    replace heT : e ∈ l := heT
    obtain ⟨lv, kv, ps, g, e1, e2, e3, e5, e4⟩ := hT.opn
    obtain ⟨A, c, rfl, hr⟩ := own_rd e2
    have hml := Rd.max hr
    have hl4 : l.length ≤ 4 := hl
    have ha := heap_alloc_new w (.cells #[.string e.key, .int .i64 e.no] 71)
    have hx1 := hid ((Ext.refl w).alloc_right (.cells #[.string e.key, .int .i64 e.no] 71))
    have z0 : (w.alloc (.cells #[.string e.key, .int .i64 e.no] 71)).cell? ⟨w.heap.size, 0, none⟩ = some (.string e.key) := by rw [Lib.cell_of_heap ha]; rfl
    have z1 : (w.alloc (.cells #[.string e.key, .int .i64 e.no] 71)).cell? ⟨w.heap.size, 1, none⟩ = some (.int .i64 e.no) := by rw [Lib.cell_of_heap ha]; rfl
    have zp := hx1.out.cell (node_c0 e1)
    have lp := World.block_lt_of_cell? _ _ zp
    dsimp only at lp
    have hP := hid (place_any p A l.length c l e _ zp (hr.ext hx1.out) hSl (by omega))
    have hil := (rank_cut hSl e).1
    have hbs : Hid (∀ a, f a ≠ 0 → a < w.heap.size) := fun a h0 => Nat.lt_of_not_le (fun h1 => h0 (hT.bound a h1))
    have hrk := (at_rank hSl heT).1
    obtain ⟨rfl, rfl, hg0⟩ := e5
    replace e4 : ∀ a, f a = one1 p a + ob (.slice A l.length c) a + ob kv a := fun a => by rw [e4 a, hg0 a]; omega
    obtain ⟨kA, kc, rfl, -⟩ := own_rd e3
    obtain rfl : T' = .nd (l.take (rankT l e) ++ l.drop (rankT l e + 1)) [] := hT'.out
    have hlen : Hid ((l.take (rankT l e) ++ l.drop (rankT l e + 1)).length = l.length - 1) := by unfold Hid; rw [List.length_append, List.length_take, List.length_drop]; omega
    have htn := hid (show tents (l.take (rankT l e) ++ l.drop (rankT l e + 1)) = (tents l).take (rankT l e * 2) ++ (tents l).drop ((rankT l e + 1) * 2) by rw [tents_append, tents_take, tents_drop])
    generalize l.take (rankT l e) ++ l.drop (rankT l e + 1) = l' at *
    clear hT' he heT
    clear ha zp hr
    go_enter Try.func62, Try.ntmps62
    go_upto_region 1 with fail
    obtain ⟨b, hb0⟩ : ∃ b, b = w.heap.size := ⟨_, rfl⟩
    rw [← hb0] at z0 z1
    simp only [← hb0]
    replace hb0 := hid hb0
    generalize w.alloc (.cells #[.string e.key, .int .i64 e.no] 71) = w1 at *
    generalize rankT l e = i at *
    generalize memT l e = mm at *
    go_wp2_with fail
    refine hP.out.mono ?_
    rintro e' w2 ⟨rfl, hx2⟩
    replace z0 := hx2.cell z0
    replace z1 := hx2.cell z1
    replace hx1 := hid (hx1.out.trans hx2)
    clear hx2 hP
    replace e1 := (hx1.out.block (Array.getElem?_eq_some_iff.1 e1).1).trans e1
    replace e2 := hx1.out.own e2
    replace e3 := hx1.out.own e3
    have lp2 := (Array.getElem?_eq_some_iff.1 e1).1
    have zk := node_c1 e1
    have zp := node_c0 e1
    obtain ⟨k, hk⟩ : ∃ k, k = i + 1 := ⟨_, rfl⟩
    have hw1 : IntKind.i64.wrap ((i : Int) + 1) = (k : Int) := by rw [IntWalk.i64_in _ (by omega)]; omega
    have hw2 : ((i : Int) + 1) = (k : Int) := by omega
    have hD := del_N l.length i _ (tents l) w2 hrk (by omega) e2 (tents_one _)
    rw [← hk] at hD htn
    replace hD := hid hD
    replace hk := hid hk
    go_upto_region 4 with fail
    go_wp2_with fail
    refine hD.out.mono ?_
    rintro e' W2 ⟨v', rfl, ho', hrw⟩
    rw [← htn.out, ← hlen.out] at ho'
    have hfin : ∀ u, u = v' → Turned w (W2.setCell ⟨p, 0, none⟩ u) 0 p f (.nd l' []) := fun u eu => by
      rw [eu]
      exact leaf_put hx1.out e1 e2 e3 e4 hn hrw ho'
    have bp := (hrw.1.block p lp2 (fun e0 => by have := hn p; rw [e4 p, ob_some e0.symm, one_self] at this; omega)).trans e1
    have y0 := node_c0 bp
    have y1 := Lib.frozen_of_heap bp 0
    replace hfin := hid hfin
    obtain ⟨Av, cv, rfl, -⟩ := own_form ho'
    replace hfin := hid (hfin.out _ rfl)
    clear ho' hrw hD bp zk zp e1 e2 e3
    go_wp2_with fail
    refine bodyPost_ret (results_none rfl _ _ _) rfl ?_
    exact ⟨rfl, hfin.out⟩
  | succ h ih =>
    intro p T f w e hT hn hs h1 hS he hl T' hT'
    have hSl : Srt T.l := by obtain ⟨l, ks⟩ := T; exact (node_lt hs hS e).1
    obtain ⟨l, ks⟩ := T
    replace hSl : Srt l := hSl
    obtain ⟨lv, kv, ps, g, e1, e2, e3, e5, e4⟩ := hT.opn
    obtain ⟨A, c, rfl, hr⟩ := own_rd e2
    have hml := Rd.max hr
    have hl4 : l.length ≤ 4 := hl
    have ha := heap_alloc_new w (.cells #[.string e.key, .int .i64 e.no] 71)
    have hx1 := hid ((Ext.refl w).alloc_right (.cells #[.string e.key, .int .i64 e.no] 71))
    have z0 : (w.alloc (.cells #[.string e.key, .int .i64 e.no] 71)).cell? ⟨w.heap.size, 0, none⟩ = some (.string e.key) := by rw [Lib.cell_of_heap ha]; rfl
    have z1 : (w.alloc (.cells #[.string e.key, .int .i64 e.no] 71)).cell? ⟨w.heap.size, 1, none⟩ = some (.int .i64 e.no) := by rw [Lib.cell_of_heap ha]; rfl
    have zp := hx1.out.cell (node_c0 e1)
    have lp := World.block_lt_of_cell? _ _ zp
    dsimp only at lp
    have hP := hid (place_any p A l.length c l e _ zp (hr.ext hx1.out) hSl (by omega))
    have hil := (rank_cut hSl e).1
    have hbs : Hid (∀ a, f a ≠ 0 → a < w.heap.size) := fun a h0 => Nat.lt_of_not_le (fun h1 => h0 (hT.bound a h1))
    obtain ⟨-, K, hKi, hfl, hA, hB, hSK⟩ := node_lt hs hS e
    obtain ⟨K2, hKi2, hmm⟩ := mem_node hs hS e
    obtain rfl := Option.some.inj (hKi.symm.trans hKi2)
    rw [memT_iff.2 he] at hmm
    have hl1 : 1 ≤ l.length := h1 (by omega)
    obtain ⟨q, g0, g1, g2, hpi, hKq, k0, k2, hg⟩ := Ks.cut (show Ks (TN w h) ps ks g from e5) hKi
    obtain ⟨s1, s2, s3⟩ := hs.2 K (List.mem_of_getElem? hKi)
    have hil2 : rankT l e < ps.length := (List.getElem?_eq_some_iff.1 hpi).1
    have hik : Hid (rankT l e < ks.length) := (List.getElem?_eq_some_iff.1 hKi).1
    have hKe : kth ks (rankT l e) = K := by have := kth_some hik.out; rw [hKi] at this; exact (Option.some.inj this).symm
    have hkl : ks.length = l.length + 1 := hs.1
    have hpsl : ps.length = ks.length := Ks.len (show Ks (TN w h) ps ks g from e5)
    have hn1 : ∀ a, g1 a ≤ 1 := fun a => by have := hn a; rw [e4 a, hg a] at this; omega
    have hnear := hid (fun (l' : List Te) (hl' : l'.length = l.length) (J : BT) (hJ : 1 ≤ J.l.length ∧ J.l.length ≤ 4 ∧ Shp h J) => near_set (l' := l') hs hl' hl1 hil hJ)
    have hatr := hid (fun hm : memT l e = true => (at_rank hSl (memT_iff.1 hm)).1)
    have hRT := hT'.out
    unfold takeT at hRT
    rw [hKe] at hRT
    obtain ⟨KL, xL, hKL⟩ : ∃ KL xL, Hid ((KL, xL) = lastT h K) := ⟨_, _, rfl⟩
    have hlo := last_ok h K s3 (by omega)
    rw [← hKL.out] at hlo hRT
    dsimp only at hlo hRT
    have ihL := hid (fun W (hx : Ext w W) => last_any h q K g1 W (hKq.ext hx) hn1 s3 (by omega) s2 KL xL hKL)
    have hJL : Hid (1 ≤ KL.l.length ∧ KL.l.length ≤ 4 ∧ Shp h KL) := ⟨by have := hlo.2.2.1; omega, by have := hlo.2.2.2; omega, hlo.1⟩
    obtain ⟨KT, hKT⟩ : ∃ KT, Hid (KT = takeT h K e) := ⟨_, rfl⟩
    rw [← hKT.out] at hRT
    have ihT := hid (fun W (hx : Ext w W) (hm : memT (flat h K) e = true) => ih q K g1 W e (hKq.ext hx) hn1 s3 (fun _ => by omega) hSK (memT_iff.1 hm) s2 KT hKT)
    have hJT : Hid (memT (flat h K) e = true → 1 ≤ KT.l.length ∧ KT.l.length ≤ 4 ∧ Shp h KT) := fun hm => by
      have := take_ok h K e s3 (fun _ => by omega) hSK (memT_iff.1 hm)
      rw [← hKT.out] at this
      exact ⟨by omega, by omega, this.1⟩
    replace hRT := hid hRT
    replace hmm := hid hmm
    obtain ⟨kA, kc, rfl, hkr⟩ := own_rd e3
    have hkm := Rd.max hkr
    obtain ⟨ad, rfl, -⟩ := hkr.2.2.2 (by omega)
    replace hkl := hid hkl
    replace hpsl := hid hpsl
    have hfb : Hid (∀ a, w.heap.size ≤ a → f a = 0) := hT.bound
    replace hn := hid hn
    replace e4 := hid e4
    replace hg := hid hg
    replace hpi := hid hpi
    replace hKi := hid hKi
    clear hKq e5 hfl hA hB hSK hs hS he hl hT hKe hSl hkr s1 s2 s3 hn1 hT' hKi2 hlo h1
    clear ha zp hr
    go_enter Try.func62, Try.ntmps62
    go_upto_region 1 with fail
    obtain ⟨b, hb0⟩ : ∃ b, b = w.heap.size := ⟨_, rfl⟩
    rw [← hb0] at z0 z1
    simp only [← hb0]
    replace hb0 := hid hb0
    generalize w.alloc (.cells #[.string e.key, .int .i64 e.no] 71) = w1 at *
    generalize rankT l e = i at *
    generalize memT l e = mm at *
    go_wp2_with fail
    refine hP.out.mono ?_
    rintro e' w2 ⟨rfl, hx2⟩
    replace z0 := hx2.cell z0
    replace z1 := hx2.cell z1
    replace hx1 := hid (hx1.out.trans hx2)
    clear hx2 hP
    replace e1 := (hx1.out.block (Array.getElem?_eq_some_iff.1 e1).1).trans e1
    replace e2 := hx1.out.own e2
    replace e3 := hx1.out.own e3
    have lp2 := (Array.getElem?_eq_some_iff.1 e1).1
    replace k0 := Ks.frame (fun p T g h1 (h2 : ∀ a, 0 < g a → (fun _ => 0) a = 0) => TN.ext h1 hx1.out) k0 (fun _ _ => rfl)
    replace k2 := Ks.frame (fun p T g h1 (h2 : ∀ a, 0 < g a → (fun _ => 0) a = 0) => TN.ext h1 hx1.out) k2 (fun _ _ => rfl)
    have zk := node_c1 e1
    have zl := node_c0 e1
    have zq := rd_ptr (Rd.of_own e3) hpi.out
    have hn0 : ((ps.length : Int) == 0) = false := by rw [beq_eq_false_iff_ne]; omega
    have hki : (i : Int) < (ps.length : Int) := by omega
    cases mm with
    | true =>
      have hil3 := hatr.out rfl
      have hil4 : (i : Int) < (l.length : Int) := by omega
      obtain ⟨ad0, rfl⟩ : ∃ ad0, A = some ad0 := by
        obtain ⟨A', c', e', hr'⟩ := own_rd e2
        injection e' with e' _ _
        subst e'
        obtain ⟨a0, h0, -⟩ := hr'.2.2.2 (by omega)
        exact ⟨a0, h0⟩
      have hTr : Hid (T' = fillT (l.set i xL) (ks.set i KL) i) := hRT.out.trans (if_pos rfl)
      clear hRT ihT hJT hmm hatr hKT
      go_upto_region 6 with fail
      have I0 : (fun w' : World => w'.cell? ⟨p, 0, none⟩ = some (.slice (some ad0) l.length c) ∧ w'.cell? ⟨p, 1, none⟩ = some (.slice (some ad) ps.length kc) ∧ w'.cell? (ad.add i) = some (.pointer (some ⟨q, 0, none⟩))) w2.drew := ⟨zl, zk, zq⟩
      have hxW := hid (hx1.out.drew_right)
      refine region_J (fun w' : World => w'.cell? ⟨p, 0, none⟩ = some (.slice (some ad0) l.length c) ∧ w'.cell? ⟨p, 1, none⟩ = some (.slice (some ad) ps.length kc) ∧ w'.cell? (ad.add i) = some (.pointer (some ⟨q, 0, none⟩))) 14 (by kernel_rfl) ?_
      replace e1 : w2.drew.heap[p]? = _ := e1
      replace e2 := (Ext.refl w2).drew_right.own e2
      replace e3 := (Ext.refl w2).drew_right.own e3
      replace k0 := Ks.frame (fun p T g h1 (h2 : ∀ a, 0 < g a → (fun _ => 0) a = 0) => TN.ext h1 (Ext.refl w2).drew_right) k0 (fun _ _ => rfl)
      replace k2 := Ks.frame (fun p T g h1 (h2 : ∀ a, 0 < g a → (fun _ => 0) a = 0) => TN.ext h1 (Ext.refl w2).drew_right) k2 (fun _ _ => rfl)
      clear z0 z1 zk zq zl hx1
      generalize w2.drew = W at *
      refine J_take 0 (v := ?vc0) rfl (by kernel_rfl) (by kernel_rfl) (by kernel_rfl) (by kernel_rfl) (fun _ _ _ h => h) (Or.inl ⟨by rfl, ?yc0⟩) I0 ?rc0
      case yc0 => (intro w hSw; obtain ⟨_, _, _⟩ := hSw; (go_simp; with_reducible rfl))
      simp only [Act.put, List.getElem_toArray, List.getElem_cons_zero, List.getElem_cons_succ, List.setIfInBounds_toArray, List.set_cons_zero, List.set_cons_succ]
      refine J_take 1 (v := ?vc1) rfl (by kernel_rfl) (by kernel_rfl) (by kernel_rfl) (by kernel_rfl) (fun _ _ _ h => h) (Or.inl ⟨by rfl, ?yc1⟩) I0 ?rc1
      case yc1 => (intro w hSw; obtain ⟨_, _, _⟩ := hSw; (go_simp; with_reducible rfl))
      simp only [Act.put, List.getElem_toArray, List.getElem_cons_zero, List.getElem_cons_succ, List.setIfInBounds_toArray, List.set_cons_zero, List.set_cons_succ]
      refine J_take 2 (v := ?vc2) rfl (by kernel_rfl) (by kernel_rfl) (by kernel_rfl) (by kernel_rfl) (fun _ _ _ h => h) (Or.inl ⟨by rfl, ?yc2⟩) I0 ?rc2
      case yc2 => (intro w hSw; obtain ⟨_, _, _⟩ := hSw; (go_simp; with_reducible rfl))
      simp only [Act.put, List.getElem_toArray, List.getElem_cons_zero, List.getElem_cons_succ, List.setIfInBounds_toArray, List.set_cons_zero, List.set_cons_succ]
      refine J_take 3 (v := ?vc3) rfl (by kernel_rfl) (by kernel_rfl) (by kernel_rfl) (by kernel_rfl) (fun _ _ _ h => h) (Or.inl ⟨by rfl, ?yc3⟩) I0 ?rc3
      case yc3 => (intro w hSw; obtain ⟨_, _, _⟩ := hSw; (go_simp; with_reducible rfl))
      simp only [Act.put, List.getElem_toArray, List.getElem_cons_zero, List.getElem_cons_succ, List.setIfInBounds_toArray, List.set_cons_zero, List.set_cons_succ]
      refine J_take 4 (v := ?vc4) rfl (by kernel_rfl) (by kernel_rfl) (by kernel_rfl) (by kernel_rfl) (fun _ _ _ h => h) (Or.inl ⟨by rfl, ?yc4⟩) I0 ?rc4
      case yc4 => (intro w hSw; obtain ⟨_, _, _⟩ := hSw; (go_simp; with_reducible rfl))
      simp only [Act.put, List.getElem_toArray, List.getElem_cons_zero, List.getElem_cons_succ, List.setIfInBounds_toArray, List.set_cons_zero, List.set_cons_succ]
      refine J_take 5 (v := ?vc5) rfl (by kernel_rfl) (by kernel_rfl) (by kernel_rfl) (by kernel_rfl) (fun _ _ _ h => h) (Or.inl ⟨by rfl, ?yc5⟩) I0 ?rc5
      case yc5 => (intro w hSw; obtain ⟨_, _, _⟩ := hSw; (go_simp; with_reducible rfl))
      simp only [Act.put, List.getElem_toArray, List.getElem_cons_zero, List.getElem_cons_succ, List.setIfInBounds_toArray, List.set_cons_zero, List.set_cons_succ]
      refine J_take 6 (v := ?vc6) rfl (by kernel_rfl) (by kernel_rfl) (by kernel_rfl) (by kernel_rfl) (fun _ _ _ h => h) (Or.inl ⟨by rfl, ?yc6⟩) I0 ?rc6
      case yc6 => (intro w hSw; obtain ⟨_, _, _⟩ := hSw; (go_simp; with_reducible rfl))
      simp only [Act.put, List.getElem_toArray, List.getElem_cons_zero, List.getElem_cons_succ, List.setIfInBounds_toArray, List.set_cons_zero, List.set_cons_succ]
      refine J_take 7 (v := ?vc7) rfl (by kernel_rfl) (by kernel_rfl) (by kernel_rfl) (by kernel_rfl) (fun _ _ _ h => h) (Or.inl ⟨by rfl, ?yc7⟩) I0 ?rc7
      case yc7 => (intro w hSw; obtain ⟨_, _, _⟩ := hSw; (go_simp; with_reducible rfl))
      simp only [Act.put, List.getElem_toArray, List.getElem_cons_zero, List.getElem_cons_succ, List.setIfInBounds_toArray, List.set_cons_zero, List.set_cons_succ]
      refine J_take 8 (v := ?vc8) rfl (by kernel_rfl) (by kernel_rfl) (by kernel_rfl) (by kernel_rfl) (fun _ _ _ h => h) (Or.inl ⟨by rfl, ?yc8⟩) I0 ?rc8
      case yc8 => (intro w hSw; obtain ⟨_, _, _⟩ := hSw; (go_simp; with_reducible rfl))
      simp only [Act.put, List.getElem_toArray, List.getElem_cons_zero, List.getElem_cons_succ, List.setIfInBounds_toArray, List.set_cons_zero, List.set_cons_succ]
      refine J_take 9 (v := ?vc9) rfl (by kernel_rfl) (by kernel_rfl) (by kernel_rfl) (by kernel_rfl) (fun _ _ _ h => h) (Or.inl ⟨by rfl, ?yc9⟩) I0 ?rc9
      case yc9 => (intro w hSw; obtain ⟨_, _, _⟩ := hSw; (go_simp; with_reducible rfl))
      simp only [Act.put, List.getElem_toArray, List.getElem_cons_zero, List.getElem_cons_succ, List.setIfInBounds_toArray, List.set_cons_zero, List.set_cons_succ]
      refine J_take 10 (v := ?vc10) rfl (by kernel_rfl) (by kernel_rfl) (by kernel_rfl) (by kernel_rfl) (fun _ _ _ h => h) (Or.inl ⟨by rfl, ?yc10⟩) I0 ?rc10
      case yc10 => (intro w hSw; obtain ⟨_, _, _⟩ := hSw; (go_simp; with_reducible rfl))
      simp only [Act.put, List.getElem_toArray, List.getElem_cons_zero, List.getElem_cons_succ, List.setIfInBounds_toArray, List.set_cons_zero, List.set_cons_succ]
      refine J_take 11 (v := ?vc11) rfl (by kernel_rfl) (by kernel_rfl) (by kernel_rfl) (by kernel_rfl) (fun _ _ _ h => h) (Or.inl ⟨by rfl, ?yc11⟩) I0 ?rc11
      case yc11 => (intro w hSw; obtain ⟨_, _, _⟩ := hSw; (go_simp; with_reducible rfl))
      simp only [Act.put, List.getElem_toArray, List.getElem_cons_zero, List.getElem_cons_succ, List.setIfInBounds_toArray, List.set_cons_zero, List.set_cons_succ]
      refine J_one 12 rfl (by kernel_rfl) (fun K hK => ?_)
      go_simp
      refine (ihL.out W hxW.out).mono ?_
      rintro e' W1 ⟨rfl, ht⟩
      obtain ⟨g1', t1, t2, t3, t4, t5, t6, t7, t8, t9⟩ := kid_turned (f := f) e1 e2 e3 hpi.out hKi.out k0 k2 (fun a => by rw [e4.out a, hg.out a]) hn.out (fun a ha => hfb.out a (Nat.le_trans hxW.out.size ha)) ht
      have I2 : (fun w' : World => w'.cell? ⟨p, 0, none⟩ = some (.slice (some ad0) l.length c) ∧ w'.cell? ⟨p, 1, none⟩ = some (.slice (some ad) ps.length kc) ∧ w'.cell? (ad.add i) = some (.pointer (some ⟨q, 0, none⟩))) W1 := ⟨node_c0 t2, node_c1 t2, rd_ptr (Rd.of_own t4) hpi.out⟩
      have hf1 := (own_freeA t3 (i * 2)).1
      have hz0 := (own_entryA t3 hil3).1
      have hz1 := (own_midA t3 hil3 (.string xL.key)).1
      have hf2 := (own_midA t3 hil3 (.string xL.key)).2
      have hot := own_turnA (x := xL) t3 hil3
      have hrow := hid (kid_row (l' := l.set i xL) t1 t2 t4 t5 t6 t7 hpi.out hik.out hot.2 (by rw [List.length_set]; exact hot.1))
      replace t7 := hid t7
      replace t8 := hid t8
      replace t9 := hid t9
      clear ht e1 e2 e3 k0 k2 ihL t1 t2 t3 t4 t5 t6 hot
      refine hK _ _ ⟨fun _ => I2, ?_⟩
      clear hK K
      try simp only [Act.put, List.getElem_toArray, List.getElem_cons_zero, List.getElem_cons_succ, List.setIfInBounds_toArray, List.set_cons_zero, List.set_cons_succ]
      refine J_one 13 rfl (by kernel_rfl) (fun K hK => ?_)
      go_simp
      refine hK _ _ ⟨fun _ => I2, ?_⟩
      clear hK K
      try simp only [Act.put, List.setIfInBounds_toArray, List.set_cons_zero, List.set_cons_succ]
      refine J_one 14 rfl (by kernel_rfl) (fun K hK => ?_)
      go_simp
      refine hK _ _ ⟨fun h => absurd rfl h, ?_⟩
      clear hK K
      refine J_done (by kernel_rfl) (OnlyOn.normal ?_)
      clear hf1 hf2 hz0 hz1 I2 I0
      generalize (W1.setCell (ad0.add (i * 2)) (.string xL.key)).setCell ⟨(ad0.add (i * 2)).block, (ad0.add (i * 2)).off + 1, none⟩ (.int .i64 xL.no) = W2 at *
      have hfill := hid (fill_any h p i (l.set i xL) (ks.set i KL) _ W2 hrow.out.1 t7.out (hnear.out _ (List.length_set ..) KL hJL.out) (by rw [List.length_set]; omega))
      rw [← hTr.out] at hfill
      have hF2 : Hid (FR f W W2) := t9.out.trans hrow.out.2 (fun k hk h0 => by have := t8.out k hk; omega)
      go_wp2_with fail
      refine hfill.out.mono ?_
      rintro e' W3 ⟨rfl, ht⟩
      have hfin := hid (Turned.left (Turned.seq t8.out hF2.out ht) hxW.out)
      clear hfill ht
      go_wp2_with fail
      go_end0
      exact ⟨rfl, hfin.out⟩
    | false =>
      have hTr : Hid (T' = fillT l (ks.set i KT) i) := hRT.out.trans (if_neg (by decide))
      have hmK : memT (flat h K) e = true := by have := hmm.out; rw [Bool.false_or] at this; exact this.symm
      replace ihT := hid (fun W hx => ihT.out W hx hmK)
      replace hJT := hid (hJT.out hmK)
      clear hRT ihL hJL hmm hatr hKL hmK
      go_upto_region 2 with fail
      have I0 : (fun w' : World => w'.cell? ⟨p, 1, none⟩ = some (.slice (some ad) ps.length kc) ∧ w'.cell? (ad.add i) = some (.pointer (some ⟨q, 0, none⟩)) ∧ w'.cell? ⟨b, 0, none⟩ = some (.string e.key) ∧ w'.cell? ⟨b, 1, none⟩ = some (.int .i64 e.no)) w2.drew := ⟨zk, zq, z0, z1⟩
      have hxW := hid (hx1.out.drew_right)
      refine region_J (fun w' : World => w'.cell? ⟨p, 1, none⟩ = some (.slice (some ad) ps.length kc) ∧ w'.cell? (ad.add i) = some (.pointer (some ⟨q, 0, none⟩)) ∧ w'.cell? ⟨b, 0, none⟩ = some (.string e.key) ∧ w'.cell? ⟨b, 1, none⟩ = some (.int .i64 e.no)) 9 (by kernel_rfl) ?_
      replace e1 : w2.drew.heap[p]? = _ := e1
      replace e2 := (Ext.refl w2).drew_right.own e2
      replace e3 := (Ext.refl w2).drew_right.own e3
      replace k0 := Ks.frame (fun p T g h1 (h2 : ∀ a, 0 < g a → (fun _ => 0) a = 0) => TN.ext h1 (Ext.refl w2).drew_right) k0 (fun _ _ => rfl)
      replace k2 := Ks.frame (fun p T g h1 (h2 : ∀ a, 0 < g a → (fun _ => 0) a = 0) => TN.ext h1 (Ext.refl w2).drew_right) k2 (fun _ _ => rfl)
      clear z0 z1 zk zq zl hx1
      generalize w2.drew = W at *
      refine J_takeO 0 (v := ?vd0) rfl (by kernel_rfl) (by kernel_rfl) (by kernel_rfl) (by kernel_rfl) (fun _ _ _ h => h) (Or.inl ⟨by rfl, ?yd0⟩) I0 ?rd0
      case yd0 => (intro w hSw; obtain ⟨_, _, _, _⟩ := hSw; (go_simp; with_reducible rfl))
      simp only [Act.put, List.getElem_toArray, List.getElem_cons_zero, List.getElem_cons_succ, List.setIfInBounds_toArray, List.set_cons_zero, List.set_cons_succ]
      refine J_takeO 1 (v := ?vd1) rfl (by kernel_rfl) (by kernel_rfl) (by kernel_rfl) (by kernel_rfl) (fun _ _ _ h => h) (Or.inl ⟨by rfl, ?yd1⟩) I0 ?rd1
      case yd1 => (intro w hSw; obtain ⟨_, _, _, _⟩ := hSw; (go_simp; with_reducible rfl))
      simp only [Act.put, List.getElem_toArray, List.getElem_cons_zero, List.getElem_cons_succ, List.setIfInBounds_toArray, List.set_cons_zero, List.set_cons_succ]
      refine J_takeO 2 (v := ?vd2) rfl (by kernel_rfl) (by kernel_rfl) (by kernel_rfl) (by kernel_rfl) (fun _ _ _ h => h) (Or.inl ⟨by rfl, ?yd2⟩) I0 ?rd2
      case yd2 => (intro w hSw; obtain ⟨_, _, _, _⟩ := hSw; (go_simp; with_reducible rfl))
      simp only [Act.put, List.getElem_toArray, List.getElem_cons_zero, List.getElem_cons_succ, List.setIfInBounds_toArray, List.set_cons_zero, List.set_cons_succ]
      refine J_takeO 3 (v := ?vd3) rfl (by kernel_rfl) (by kernel_rfl) (by kernel_rfl) (by kernel_rfl) (fun _ _ _ h => h) (Or.inl ⟨by rfl, ?yd3⟩) I0 ?rd3
      case yd3 => (intro w hSw; obtain ⟨_, _, _, _⟩ := hSw; (go_simp; with_reducible rfl))
      simp only [Act.put, List.getElem_toArray, List.getElem_cons_zero, List.getElem_cons_succ, List.setIfInBounds_toArray, List.set_cons_zero, List.set_cons_succ]
      refine J_takeO 4 (v := ?vd4) rfl (by kernel_rfl) (by kernel_rfl) (by kernel_rfl) (by kernel_rfl) (fun _ _ _ h => h) (Or.inl ⟨by rfl, ?yd4⟩) I0 ?rd4
      case yd4 => (intro w hSw; obtain ⟨_, _, _, _⟩ := hSw; (go_simp; with_reducible rfl))
      simp only [Act.put, List.getElem_toArray, List.getElem_cons_zero, List.getElem_cons_succ, List.setIfInBounds_toArray, List.set_cons_zero, List.set_cons_succ]
      refine J_takeO 5 (v := ?vd5) rfl (by kernel_rfl) (by kernel_rfl) (by kernel_rfl) (by kernel_rfl) (fun _ _ _ h => h) (Or.inl ⟨by rfl, ?yd5⟩) I0 ?rd5
      case yd5 => (intro w hSw; obtain ⟨_, _, _, _⟩ := hSw; (go_simp; with_reducible rfl))
      simp only [Act.put, List.getElem_toArray, List.getElem_cons_zero, List.getElem_cons_succ, List.setIfInBounds_toArray, List.set_cons_zero, List.set_cons_succ]
      refine J_takeO 6 (v := ?vd6) rfl (by kernel_rfl) (by kernel_rfl) (by kernel_rfl) (by kernel_rfl) (fun _ _ _ h => h) (Or.inl ⟨by rfl, ?yd6⟩) I0 ?rd6
      case yd6 => (intro w hSw; obtain ⟨_, _, _, _⟩ := hSw; (go_simp; with_reducible rfl))
      simp only [Act.put, List.getElem_toArray, List.getElem_cons_zero, List.getElem_cons_succ, List.setIfInBounds_toArray, List.set_cons_zero, List.set_cons_succ]
      refine J_takeO 7 (v := ?vd7) rfl (by kernel_rfl) (by kernel_rfl) (by kernel_rfl) (by kernel_rfl) (fun _ _ _ h => h) (Or.inl ⟨by rfl, ?yd7⟩) I0 ?rd7
      case yd7 => (intro w hSw; obtain ⟨_, _, _, _⟩ := hSw; (go_simp; with_reducible rfl))
      simp only [Act.put, List.getElem_toArray, List.getElem_cons_zero, List.getElem_cons_succ, List.setIfInBounds_toArray, List.set_cons_zero, List.set_cons_succ]
      refine J_one 8 rfl (by kernel_rfl) (fun K hK => ?_)
      go_simp
      refine (ihT.out W hxW.out).mono ?_
      rintro e' w5 ⟨rfl, ht⟩
      obtain ⟨g1', t1, t2, t3, t4, t5, t6, t7, t8, t9⟩ := kid_turned (f := f) e1 e2 e3 hpi.out hKi.out k0 k2 (fun a => by rw [e4.out a, hg.out a]) hn.out (fun a ha => hfb.out a (Nat.le_trans hxW.out.size ha)) ht
      have hbc : ∀ j x, W.cell? ⟨b, j, none⟩ = some x → w5.cell? ⟨b, j, none⟩ = some x := fun j x hx => by
        rw [World.cell?_of_block (t9.2.2.2.2 b (World.block_lt_of_cell? _ _ hx) (hfb.out b (by have := hb0.out; omega)))]
        exact hx
      have I2 : (fun w' : World => w'.cell? ⟨p, 1, none⟩ = some (.slice (some ad) ps.length kc) ∧ w'.cell? (ad.add i) = some (.pointer (some ⟨q, 0, none⟩)) ∧ w'.cell? ⟨b, 0, none⟩ = some (.string e.key) ∧ w'.cell? ⟨b, 1, none⟩ = some (.int .i64 e.no)) w5 := ⟨node_c1 t2, rd_ptr (Rd.of_own t4) hpi.out, hbc 0 _ I0.2.2.1, hbc 1 _ I0.2.2.2⟩
      have hTN := hid (kid_shut t1 t2 t3 t4 t5 t6 hpi.out hik.out)
      replace t7 := hid t7
      replace t8 := hid t8
      replace t9 := hid t9
      clear ht e1 e2 e3 k0 k2 hbc ihT t1 t2 t3 t4 t5 t6
      refine hK _ _ ⟨fun _ => I2, ?_⟩
      clear hK K
      try simp only [Act.put, List.getElem_toArray, List.getElem_cons_zero, List.getElem_cons_succ, List.setIfInBounds_toArray, List.set_cons_zero, List.set_cons_succ]
      refine J_done (by kernel_rfl) (OnlyOn.normal ?_)
      clear I2 I0
      have hfill := hid (fill_any h p i l (ks.set i KT) _ w5 hTN.out t7.out (hnear.out l rfl KT hJT.out) (by omega))
      rw [← hTr.out] at hfill
      go_wp2_with fail
      refine hfill.out.mono ?_
      rintro e' W3 ⟨rfl, ht⟩
      have hfin := hid (Turned.left (Turned.seq t8.out t9.out ht) hxW.out)
      clear hfill ht
      go_wp2_with fail
      go_end0
      exact ⟨rfl, hfin.out⟩
end Go.Proofs.Ytpijfiaecicpfaa
