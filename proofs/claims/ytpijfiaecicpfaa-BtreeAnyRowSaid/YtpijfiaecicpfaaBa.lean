/-
  Putting an entry into a node.
-/
import Derived.Test.YtpijfiaecicpfaaB9
namespace Go.Proofs.Ytpijfiaecicpfaa
open Go.RowKit Go.Shelf
set_option linter.unusedVariables false
set_option linter.unusedSimpArgs false
theorem rd_ptr {w : World} {n c i q : Nat} {ps : List Nat} {ad : Addr} (h : Rd w 1 (some ad) n c (ptrs ps)) (hp : ps[i]? = some q) : w.cell? (ad.add i) = some (.pointer (some ⟨q, 0, none⟩)) := by
  have hi : i < ps.length := (List.getElem?_eq_some_iff.1 hp).1
  have hn : 0 < n := by have := h.1; rw [ptrs_len] at this; omega
  obtain ⟨ad', e, hc⟩ := h.2.2.2 hn
  obtain rfl := Option.some.inj e
  exact hc i _ (by unfold ptrs; rw [List.getElem?_map, hp]; rfl)
theorem leaf_put {w W W2 : World} {p : Nat} {l l' : List Te} {lv kv v' : Value} {f : Nat → Nat} (hx : Ext w W) (e1 : W.heap[p]? = some (.cells #[lv, kv] 105 (0, 0))) (e2 : W.ownsRow 0 71 2 lv l.length (tents l)) (e3 : W.ownsRow 0 81 1 kv 0 (ptrs [])) (e4 : ∀ a, f a = one1 p a + ob lv a + ob kv a) (hn : ∀ a, f a ≤ 1)
    (hrw : Rw lv v' W W2) (ho : W2.ownsRow 0 71 2 v' l'.length (tents l')) : Turned w (W2.setCell ⟨p, 0, none⟩ v') 0 p f (.nd l' []) := by
  obtain ⟨hg, hv⟩ := hrw
  have hsz := hx.size
  have hlt := (Array.getElem?_eq_some_iff.1 e1).1
  have hv'p : v'.ownBlock ≠ some p := fun e => by
    rcases hv with h1 | h1
    · have := hn p; rw [e4 p, ob_some (v := lv) (h1.symm.trans e), one_self] at this; omega
    · have := h1 p e; omega
  have bp := (hg.block p hlt (fun e0 => by have := hn p; rw [e4 p, ob_some e0.symm, one_self] at this; omega)).trans e1
  refine ⟨fun a => one1 p a + ob v' a + ob kv a, ⟨rfl, v', kv, node_set0 bp _, own_set ho hv'p 0 _, own_set (own_ne e3 hg (fun k e e2 => by have := hn k; rw [e4 k, ob_some e, ob_some e2] at this; omega)) (fun e => by have := hn p; rw [e4 p, ob_some e, one_self] at this; omega) 0 _, fun _ => rfl⟩, fun a => ?_, fun a ha => ?_, fr_step (FR.of_ext hx) hg (fun k e hk h0 => by rw [e4 k, ob_some e] at h0; omega) (fun hk h0 => by rw [e4 p, one_self] at h0; omega) 0 _⟩
  · show one1 p a + ob v' a + ob kv a ≤ 1
    have h0 := hn a
    rw [e4 a] at h0
    rcases hv with h1 | h1
    · rw [ob_same h1]; exact h0
    · by_cases hs : a < W.heap.size
      · rw [show ob v' a = 0 from if_neg (fun e => by have := h1 a e; omega)]; omega
      · rw [one_bound e1 (Nat.le_of_not_lt hs), own_bound e3 (Nat.le_of_not_lt hs)]
        have : ob v' a ≤ 1 := by unfold ob; split <;> omega
        omega
  · show one1 p a + ob v' a + ob kv a ≤ f a
    rw [e4 a]
    rcases hv with h1 | h1
    · rw [ob_same h1]; omega
    · rw [show ob v' a = 0 from if_neg (fun e => by have := h1 a e; omega)]; omega
theorem split_done {w w5 w6 : World} {h p q r i : Nat} {l lk : List Te} {ks kk : List BT} {ps pk : List Nat} {lv kv lq kq lv' kv' lq' kq' lr kr : Value} {f f2 g0 gk g2 : Nat → Nat} (hi : i < ps.length) (hl5 : lk.length = 5) (hfr : FR f w w5)
    (hpi : ps[i]? = some q)
    (hle : ∀ a, a < w.heap.size → one1 p a + ob lv a + ob kv a + (g0 a + (one1 q a + ob lq a + ob kq a + gk a) + g2 a) ≤ f a) (hn5 : ∀ a, one1 p a + ob lv a + ob kv a + (g0 a + (one1 q a + ob lq a + ob kq a + gk a) + g2 a) ≤ 1)
    (k0 : Ks (TN w5 h) (ps.take i) (ks.take i) g0) (k2 : Ks (TN w5 h) (ps.drop (i + 1)) (ks.drop (i + 1)) g2) (k1 : Kd w5 h pk kk gk) (hf2 : ∀ a, f2 a = one1 p a + ob lv a + ob kv a + one1 q a + ob lq a + ob kq a)
    (tri : Tri f2 w5 w6 p q r lv' kv' lq' kq' lr kr (l.length + 1) (ps.length + 1) 2 (pk.take 3).length 2 (pk.drop 3).length (tents (l.take i ++ tth lk 2 :: l.drop i)) (ptrs (ps.take (i + 1) ++ r :: ps.drop (i + 1))) (tents (lk.take 2)) (ptrs (pk.take 3)) (tents (lk.drop 3)) (ptrs (pk.drop 3))) (hil : i ≤ l.length) :
    Turned w w6 (h + 1) p f (splitT l ks i (.nd lk kk)) := by
  obtain ⟨gk1, gk2, kk1, kk2, hgk⟩ := k1.parts (m := 3)
  have b0 := Ks.bound (fun p T g h1 => TN.bound h1) k0
  have b2 := Ks.bound (fun p T g h1 => TN.bound h1) k2
  have b1 := k1.bound
  have hsz := hfr.2.2.2.1
  have z : ∀ a, 0 < g0 a + g2 a + gk a → f2 a = 0 := fun a ha => by have := hn5 a; rw [hf2 a]; omega
  have k0' := Ks.frame (fun p T g h1 h2 => TN.frame tri.fr h1 h2) k0 (fun a ha => z a (by omega))
  have k2' := Ks.frame (fun p T g h1 h2 => TN.frame tri.fr h1 h2) k2 (fun a ha => z a (by omega))
  have kk1' := kk1.frame tri.fr (fun a ha => z a (by rw [hgk a]; omega))
  have kk2' := kk2.frame tri.fr (fun a ha => z a (by rw [hgk a]; omega))
  have hm : (BT.nd lk kk).l.length / 2 = 2 := by show lk.length / 2 = 2; omega
  have hps : ps.take (i + 1) ++ r :: ps.drop (i + 1) = ps.take i ++ q :: (r :: ps.drop (i + 1)) := by
    rw [List.take_add_one, hpi]
    simp
  have hT : splitT l ks i (.nd lk kk) = .nd (l.take i ++ tth lk 2 :: l.drop i) (ks.take i ++ .nd (lk.take 2) (kk.take 3) :: (.nd (lk.drop 3) (kk.drop 3) :: ks.drop (i + 1))) := by
    unfold splitT
    rw [hm]
    rfl
  have nq : TN w6 h q (.nd (lk.take 2) (kk.take 3)) (fun a => one1 q a + ob lq' a + ob kq' a + gk1 a) := TN.shut tri.hq (by rw [show (lk.take 2).length = 2 by rw [List.length_take]; omega]; exact tri.o3) tri.o4 kk1' (fun _ => rfl)
  have nr : TN w6 h r (.nd (lk.drop 3) (kk.drop 3)) (fun a => one1 r a + ob lr a + ob kr a + gk2 a) := TN.shut tri.hr (by rw [show (lk.drop 3).length = 2 by rw [List.length_drop]; omega]; exact tri.o5) tri.o6 kk2' (fun _ => rfl)
  have kr2 : Ks (TN w6 h) (r :: ps.drop (i + 1)) (.nd (lk.drop 3) (kk.drop 3) :: ks.drop (i + 1)) (fun a => (one1 r a + ob lr a + ob kr a + gk2 a) + g2 a) := ⟨_, _, nr, k2', fun _ => rfl⟩
  have kall := Ks.mid k0' nq kr2
  have hlen : (l.take i ++ tth lk 2 :: l.drop i).length = l.length + 1 := by simp; omega
  have hpl : (ps.take i ++ q :: (r :: ps.drop (i + 1))).length = ps.length + 1 := by simp; omega
  have o2' := tri.o2
  rw [hps] at o2'
  rw [hT]
  refine ⟨_, TN.shut tri.hp (by rw [hlen]; exact tri.o1) (by rw [hpl]; exact o2') kall (fun _ => rfl), fun a => ?_, fun a ha => ?_, hfr.trans tri.fr (fun k hk h0 => ?_)⟩
  · by_cases hs : a < w5.heap.size
    · have h1 := tri.le a hs
      have h2 := hn5 a
      have h3 := hgk a
      rw [hf2 a] at h1
      show one1 p a + ob lv' a + ob kv' a + (g0 a + (one1 q a + ob lq' a + ob kq' a + gk1 a) + (one1 r a + ob lr a + ob kr a + gk2 a + g2 a)) ≤ 1
      omega
    · have h1 := tri.nd a
      have h2 := b0 a (by omega)
      have h3 := b1 a (by omega)
      have h4 := b2 a (by omega)
      have h5 := hgk a
      show one1 p a + ob lv' a + ob kv' a + (g0 a + (one1 q a + ob lq' a + ob kq' a + gk1 a) + (one1 r a + ob lr a + ob kr a + gk2 a + g2 a)) ≤ 1
      omega
  · have h1 := tri.le a (by omega)
    have h2 := hle a ha
    have h3 := hgk a
    rw [hf2 a] at h1
    show one1 p a + ob lv' a + ob kv' a + (g0 a + (one1 q a + ob lq' a + ob kq' a + gk1 a) + (one1 r a + ob lr a + ob kr a + gk2 a + g2 a)) ≤ f a
    omega
  · have h2 := hle k hk
    rw [hf2 k]
    omega
set_option maxRecDepth 100000 in
set_option maxHeartbeats 4000000 in
theorem put_any : ∀ (h p : Nat) (T : BT) (f : Nat → Nat) (w : World) (e : Te), TN w h p T f → (∀ a, f a ≤ 1) → Shp h T → Srt (flat h T) → e ∉ flat h T → T.l.length ≤ 4 → Calls Try.prog 76 #[.pointer (some ⟨p, 0, none⟩), .agg #[.string e.key, .int .i64 e.no]] w fun e' w' => e' = .returned (.tuple #[]) ∧ Turned w w' h p f (putT h T e) := by
  intro h
  induction h with
  | zero =>
    intro p T f w e hT hn hs hS hne0 hl
    have hSl : Srt T.l := by obtain ⟨l, ks⟩ := T; exact hS
    obtain ⟨l, ks⟩ := T
    replace hSl : Srt l := hSl
    obtain ⟨lv, kv, ps, g, e1, e2, e3, e5, e4⟩ := hT.opn
    obtain ⟨A, c, rfl, hr⟩ := own_rd e2
    have hml := Rd.max hr
    have hl4 : l.length ≤ 4 := hl
    have ha := heap_alloc_new w (.cells #[.string e.key, .int .i64 e.no] 71)
    have hx1 := hid ((Ext.refl w).alloc_right (.cells #[.string e.key, .int .i64 e.no] 71))
    have z0 : (w.alloc (.cells #[.string e.key, .int .i64 e.no] 71)).cell? ⟨w.heap.size, 0, none⟩ = some (.string e.key) := by rw [Lib.cell_of_heap ha]; rfl
    have z1 : (w.alloc (.cells #[.string e.key, .int .i64 e.no] 71)).cell? ⟨w.heap.size, 1, none⟩ = some (.int .i64 e.no) := by rw [Lib.cell_of_heap ha]; rfl
    have zp := hx1.out.cell (node_c0 e1)
    have lp := World.block_lt_of_cell? _ _ zp
    dsimp only at lp
    have hP := hid (place_any p A l.length c l e _ zp (hr.ext hx1.out) hSl (by omega))
    have hil := (rank_cut hSl e).1
    have hbs : Hid (∀ a, f a ≠ 0 → a < w.heap.size) := fun a h0 => Nat.lt_of_not_le (fun h1 => h0 (hT.bound a h1))
    obtain ⟨rfl, rfl, hg0⟩ := e5
    replace e4 : ∀ a, f a = one1 p a + ob (.slice A l.length c) a + ob kv a := fun a => by rw [e4 a, hg0 a]; omega
    obtain ⟨kA, kc, rfl, -⟩ := own_rd e3
    have hii := hid (show tents (insT l e) = (tents l).take (rankT l e * 2) ++ ([.string e.key, .int .i64 e.no] ++ (tents l).drop (rankT l e * 2)) by rw [ins_cut hSl e, tents_append, tents_take, tents_drop]; rfl)
    replace hii := hid hii.out.symm
    show Calls Try.prog _ _ w (fun e' w' => e' = .returned (.tuple #[]) ∧ Turned w w' 0 p f (.nd (insT l e) []))
    clear ha zp hr
    go_enter Try.func76, Try.ntmps76
    go_upto_region 1 with fail
    obtain ⟨b, hb0⟩ : ∃ b, b = w.heap.size := ⟨_, rfl⟩
    rw [← hb0] at z0 z1
    simp only [← hb0]
    replace hb0 := hid hb0
    generalize w.alloc (.cells #[.string e.key, .int .i64 e.no] 71) = w1 at *
    generalize rankT l e = i at *
    generalize memT l e = mm at *
    go_wp2_with fail
    refine hP.out.mono ?_
    rintro e' w2 ⟨rfl, hx2⟩
    replace z0 := hx2.cell z0
    replace z1 := hx2.cell z1
    replace hx1 := hid (hx1.out.trans hx2)
    clear hx2 hP
    replace e1 := (hx1.out.block (Array.getElem?_eq_some_iff.1 e1).1).trans e1
    replace e2 := hx1.out.own e2
    replace e3 := hx1.out.own e3
    have lp2 := (Array.getElem?_eq_some_iff.1 e1).1
    have zk := node_c1 e1
    have zp := node_c0 e1
    have hb : Hid (∀ W1 W2 : World, W1.cell? ⟨b, 0, none⟩ = some (.string e.key) → W1.cell? ⟨b, 1, none⟩ = some (.int .i64 e.no) → ∀ v', Rw (.slice A l.length c) v' W1 W2 → W2.cell? ⟨b, 0, none⟩ = some (.string e.key) ∧ W2.cell? ⟨b, 1, none⟩ = some (.int .i64 e.no)) := fun W1 W2 q0 q1 v' hrw => by
      have hlt := World.block_lt_of_cell? _ _ q0
      have hbl : b ≥ w.heap.size := by have := hb0.out; omega
      have hne : some b ≠ (Value.slice A l.length c).ownBlock := fun e0 => by
        have := hbs.out b (by rw [e4 b, ob_some e0.symm]; omega)
        omega
      exact ⟨by rw [World.cell?_of_block (hrw.1.block b hlt hne)]; exact q0, by rw [World.cell?_of_block (hrw.1.block b hlt hne)]; exact q1⟩
    go_upto_region 3 with fail
    have I0 : (fun w' : World => w'.cell? ⟨p, 0, none⟩ = some (.slice A l.length c) ∧ w'.cell? ⟨b, 0, none⟩ = some (.string e.key) ∧ w'.cell? ⟨b, 1, none⟩ = some (.int .i64 e.no)) w2.drew := ⟨zp, z0, z1⟩
    have hx4 := hid (hx1.out.drew_right)
    refine region_J (fun w' : World => w'.cell? ⟨p, 0, none⟩ = some (.slice A l.length c) ∧ w'.cell? ⟨b, 0, none⟩ = some (.string e.key) ∧ w'.cell? ⟨b, 1, none⟩ = some (.int .i64 e.no)) 11 (by kernel_rfl) ?_
    replace e1 : w2.drew.heap[p]? = _ := e1
    replace e2 : w2.drew.ownsRow _ _ _ _ _ _ := (Ext.refl w2).drew_right.own e2
    replace e3 : w2.drew.ownsRow _ _ _ _ _ _ := (Ext.refl w2).drew_right.own e3
    clear zp z0 z1 zk
    generalize w2.drew = W at *
    refine J_take 0 (v := ?vc0) rfl (by kernel_rfl) (by kernel_rfl) (by kernel_rfl) (by kernel_rfl) (fun _ _ _ h => h) (Or.inl ⟨by rfl, ?yc0⟩) I0 ?rc0
    case yc0 => (intro w hSw; obtain ⟨_, _, _⟩ := hSw; (go_simp; with_reducible rfl))
    simp only [Act.put, List.getElem_toArray, List.getElem_cons_zero, List.getElem_cons_succ, List.setIfInBounds_toArray, List.set_cons_zero, List.set_cons_succ]
    refine J_take 1 (v := ?vc1) rfl (by kernel_rfl) (by kernel_rfl) (by kernel_rfl) (by kernel_rfl) (fun _ _ _ h => h) (Or.inl ⟨by rfl, ?yc1⟩) I0 ?rc1
    case yc1 => (intro w hSw; obtain ⟨_, _, _⟩ := hSw; (go_simp; with_reducible rfl))
    simp only [Act.put, List.getElem_toArray, List.getElem_cons_zero, List.getElem_cons_succ, List.setIfInBounds_toArray, List.set_cons_zero, List.set_cons_succ]
    refine J_take 2 (v := ?vc2) rfl (by kernel_rfl) (by kernel_rfl) (by kernel_rfl) (by kernel_rfl) (fun _ _ _ h => h) (Or.inl ⟨by rfl, ?yc2⟩) I0 ?rc2
    case yc2 => (intro w hSw; obtain ⟨_, _, _⟩ := hSw; (go_simp; with_reducible rfl))
    simp only [Act.put, List.getElem_toArray, List.getElem_cons_zero, List.getElem_cons_succ, List.setIfInBounds_toArray, List.set_cons_zero, List.set_cons_succ]
    refine J_take 3 (v := ?vc3) rfl (by kernel_rfl) (by kernel_rfl) (by kernel_rfl) (by kernel_rfl) (fun _ _ _ h => h) (Or.inl ⟨by rfl, ?yc3⟩) I0 ?rc3
    case yc3 => (intro w hSw; obtain ⟨_, _, _⟩ := hSw; (go_simp; with_reducible rfl))
    simp only [Act.put, List.getElem_toArray, List.getElem_cons_zero, List.getElem_cons_succ, List.setIfInBounds_toArray, List.set_cons_zero, List.set_cons_succ]
    refine J_take 4 (v := ?vc4) rfl (by kernel_rfl) (by kernel_rfl) (by kernel_rfl) (by kernel_rfl) (fun _ _ _ h => h) (Or.inl ⟨by rfl, ?yc4⟩) I0 ?rc4
    case yc4 => (intro w hSw; obtain ⟨_, _, _⟩ := hSw; (go_simp; with_reducible rfl))
    simp only [Act.put, List.getElem_toArray, List.getElem_cons_zero, List.getElem_cons_succ, List.setIfInBounds_toArray, List.set_cons_zero, List.set_cons_succ]
    refine J_take 5 (v := ?vc5) rfl (by kernel_rfl) (by kernel_rfl) (by kernel_rfl) (by kernel_rfl) (fun _ _ _ h => h) (Or.inl ⟨by rfl, ?yc5⟩) I0 ?rc5
    case yc5 => (intro w hSw; obtain ⟨_, _, _⟩ := hSw; (go_simp; with_reducible rfl))
    simp only [Act.put, List.getElem_toArray, List.getElem_cons_zero, List.getElem_cons_succ, List.setIfInBounds_toArray, List.set_cons_zero, List.set_cons_succ]
    refine J_take 6 (v := ?vc6) rfl (by kernel_rfl) (by kernel_rfl) (by kernel_rfl) (by kernel_rfl) (fun _ _ _ h => h) (Or.inl ⟨by rfl, ?yc6⟩) I0 ?rc6
    case yc6 => (intro w hSw; obtain ⟨_, _, _⟩ := hSw; (go_simp; with_reducible rfl))
    simp only [Act.put, List.getElem_toArray, List.getElem_cons_zero, List.getElem_cons_succ, List.setIfInBounds_toArray, List.set_cons_zero, List.set_cons_succ]
    refine J_one 7 rfl (by kernel_rfl) (fun K hK => ?_)
    go_simp
    have hx5 := (Ext.refl W).alloc_right (.cells #[.string e.key, .int .i64 e.no] 71)
    have hva := hid (heap_alloc_new W (.cells #[.string e.key, .int .i64 e.no] 71))
    have hne : Hid ((Value.slice A l.length c).ownBlock ≠ some W.heap.size) := fun e => by have := (e2.lt _ e).2; omega
    have I1 : (fun w' : World => w'.cell? ⟨p, 0, none⟩ = some (.slice A l.length c) ∧ w'.cell? ⟨b, 0, none⟩ = some (.string e.key) ∧ w'.cell? ⟨b, 1, none⟩ = some (.int .i64 e.no)) (W.alloc (.cells #[.string e.key, .int .i64 e.no] 71)) := ⟨hx5.cell I0.1, hx5.cell I0.2.1, hx5.cell I0.2.2⟩
    replace e1 := (hx5.block (Array.getElem?_eq_some_iff.1 e1).1).trans e1
    replace e2 := hx5.own e2
    replace e3 := hx5.own e3
    replace hx4 := hid (hx4.out.trans hx5)
    clear hx5
    generalize W.heap.size = va at *
    generalize W.alloc (.cells #[.string e.key, .int .i64 e.no] 71) = W1 at *
    refine hK _ _ ⟨fun _ => I1, ?_⟩
    clear hK K
    try simp only [Act.put, List.getElem_toArray, List.getElem_cons_zero, List.getElem_cons_succ, List.setIfInBounds_toArray, List.set_cons_zero, List.set_cons_succ]
    refine J_one 8 rfl (by kernel_rfl) (fun K hK => ?_)
    go_simp
    refine (ins_N l.length i _ (tents l) [.string e.key, .int .i64 e.no] va W1 hil (by omega) e2 (tents_one _) hva.out rfl (tents_one [e]) hne.out).mono ?_
    rintro e' W2 ⟨v', rfl, ho', hrw⟩
    have hpl : Hid ((Value.slice A l.length c).ownBlock ≠ some p) := fun e => by have := hn p; rw [e4 p, one_self, ob_some e] at this; omega
    have bp := (hrw.1.block p (Array.getElem?_eq_some_iff.1 e1).1 (fun e0 => hpl.out e0.symm)).trans e1
    have hp2 := node_c0 bp
    have hf2 := Lib.frozen_of_heap bp 0
    have hfin : ∀ u, u = v' → Turned w (W2.setCell ⟨p, 0, none⟩ u) 0 p f (.nd (insT l e) []) := fun u eu => by
      rw [eu]
      refine leaf_put hx4.out e1 e2 e3 e4 hn hrw ?_
      rw [len_ins, ← hii.out]
      exact ho'
    replace hfin := hid hfin
    obtain ⟨Av, cv, rfl, -⟩ := own_form ho'
    have lb : b < W2.heap.size := by have := World.block_lt_of_cell? _ _ I1.2.1; have := hrw.1.size; dsimp only at *; omega
    have I2 : (fun w' : World => w'.cell? ⟨p, 0, none⟩ = some (.slice A l.length c) ∧ w'.cell? ⟨b, 0, none⟩ = some (.string e.key) ∧ w'.cell? ⟨b, 1, none⟩ = some (.int .i64 e.no)) W2 := ⟨hp2, (hb.out W1 W2 I1.2.1 I1.2.2 _ hrw).1, (hb.out W1 W2 I1.2.1 I1.2.2 _ hrw).2⟩
    clear ho' hrw hva hne e1 e2 e3
    refine hK _ _ ⟨fun _ => I2, ?_⟩
    clear hK K
    try simp only [Act.put, List.getElem_toArray, List.getElem_cons_zero, List.getElem_cons_succ, List.setIfInBounds_toArray, List.set_cons_zero, List.set_cons_succ]
    refine J_one 9 rfl (by kernel_rfl) (fun K hK => ?_)
    go_simp
    refine hK _ _ ⟨fun _ => I2, ?_⟩
    clear hK K
    try simp only [Act.put, List.setIfInBounds_toArray, List.set_cons_zero, List.set_cons_succ]
    refine J_one 10 rfl (by kernel_rfl) (fun K hK => ?_)
    go_simp
    refine hK _ _ ⟨fun _ => I2, ?_⟩
    clear hK K
    try simp only [Act.put, List.setIfInBounds_toArray, List.set_cons_zero, List.set_cons_succ]
    refine J_one 11 rfl (by kernel_rfl) (fun K hK => ?_)
    go_simp
    refine hK _ _ ⟨fun h => absurd rfl h, ?_⟩
    clear hK K
    refine J_done (by kernel_rfl) (OnlyOn.normal ?_)
    replace hfin := hid (hfin.out _ rfl)
    clear hp2 hf2 I2
    go_wp2_with fail
    refine bodyPost_ret (results_none rfl _ _ _) rfl ?_
    exact ⟨rfl, hfin.out⟩
  | succ h ih =>
    intro p T f w e hT hn hs hS hne0 hl
    have hSl : Srt T.l := by obtain ⟨l, ks⟩ := T; exact (node_lt hs hS e).1
    obtain ⟨l, ks⟩ := T
    replace hSl : Srt l := hSl
    obtain ⟨lv, kv, ps, g, e1, e2, e3, e5, e4⟩ := hT.opn
    obtain ⟨A, c, rfl, hr⟩ := own_rd e2
    have hml := Rd.max hr
    have hl4 : l.length ≤ 4 := hl
    have ha := heap_alloc_new w (.cells #[.string e.key, .int .i64 e.no] 71)
    have hx1 := hid ((Ext.refl w).alloc_right (.cells #[.string e.key, .int .i64 e.no] 71))
    have z0 : (w.alloc (.cells #[.string e.key, .int .i64 e.no] 71)).cell? ⟨w.heap.size, 0, none⟩ = some (.string e.key) := by rw [Lib.cell_of_heap ha]; rfl
    have z1 : (w.alloc (.cells #[.string e.key, .int .i64 e.no] 71)).cell? ⟨w.heap.size, 1, none⟩ = some (.int .i64 e.no) := by rw [Lib.cell_of_heap ha]; rfl
    have zp := hx1.out.cell (node_c0 e1)
    have lp := World.block_lt_of_cell? _ _ zp
    dsimp only at lp
    have hP := hid (place_any p A l.length c l e _ zp (hr.ext hx1.out) hSl (by omega))
    have hil := (rank_cut hSl e).1
    have hbs : Hid (∀ a, f a ≠ 0 → a < w.heap.size) := fun a h0 => Nat.lt_of_not_le (fun h1 => h0 (hT.bound a h1))
    obtain ⟨-, K, hKi, hfl, hA, hB, hSK⟩ := node_lt hs hS e
    obtain ⟨q, g0, g1, g2, hpi, hKq, k0, k2, hg⟩ := Ks.cut (show Ks (TN w h) ps ks g from e5) hKi
    obtain ⟨s1, s2, s3⟩ := hs.2 K (List.mem_of_getElem? hKi)
    have hnK : e ∉ flat h K := fun hm => hne0 (by rw [hfl]; exact List.mem_append_right _ (List.mem_append_left _ hm))
    obtain ⟨o1, o2, o3, o4⟩ := putT_ok h K e s3 hSK hnK
    have hgK : ks.getD (rankT l e) default = K := by simp [List.getD, hKi]
    have hil2 : rankT l e < ps.length := (List.getElem?_eq_some_iff.1 hpi).1
    have hkl : ks.length = l.length + 1 := hs.1
    have hpsl : ps.length = ks.length := Ks.len (show Ks (TN w h) ps ks g from e5)
    have hn1 : ∀ a, g1 a ≤ 1 := fun a => by have := hn a; rw [e4 a, hg a] at this; omega
    have ih' := hid (fun W (hx : Ext w W) => ih q K g1 W e (hKq.ext hx) hn1 s3 hSK hnK (by omega))
    replace hkl := hid hkl
    replace hpsl := hid hpsl
    obtain ⟨kA, kc, rfl, hkr⟩ := own_rd e3
    have hkm := Rd.max hkr
    obtain ⟨ad, rfl, -⟩ := hkr.2.2.2 (by omega)
    obtain ⟨R, hR⟩ : ∃ R, R = putT (h + 1) (.nd l ks) e := ⟨_, rfl⟩
    rw [← hR]
    unfold putT at hR
    rw [hgK] at hR
    generalize putT h K e = K' at *
    obtain ⟨lk, kk⟩ := K'
    replace o3 : K.l.length ≤ lk.length := o3
    replace o4 : lk.length ≤ K.l.length + 1 := o4
    replace hR := hid (show R = if 4 < lk.length then splitT l ks (rankT l e) (.nd lk kk) else .nd l (ks.set (rankT l e) (.nd lk kk)) from hR)
    have hfb : Hid (∀ a, w.heap.size ≤ a → f a = 0) := hT.bound
    replace hn := hid hn
    replace e4 := hid e4
    replace hg := hid hg
    replace hpi := hid hpi
    replace hKi := hid hKi
    replace o1 := hid o1
    have hk6 : Hid (kk.length = 0 ∨ (kk.length = lk.length + 1)) := by
      cases h with
      | zero => left; have : kk = [] := o1.out; rw [this]; rfl
      | succ h => right; exact o1.out.1
    clear hKq e5 hfl hA hB hSK hs hS hne0 hl hT hgK hnK hSl o2 hkr s1 s3 hn1
    clear ha zp hr
    go_enter Try.func76, Try.ntmps76
    go_upto_region 1 with fail
    obtain ⟨b, hb0⟩ : ∃ b, b = w.heap.size := ⟨_, rfl⟩
    rw [← hb0] at z0 z1
    simp only [← hb0]
    replace hb0 := hid hb0
    generalize w.alloc (.cells #[.string e.key, .int .i64 e.no] 71) = w1 at *
    generalize rankT l e = i at *
    generalize memT l e = mm at *
    go_wp2_with fail
    refine hP.out.mono ?_
    rintro e' w2 ⟨rfl, hx2⟩
    replace z0 := hx2.cell z0
    replace z1 := hx2.cell z1
    replace hx1 := hid (hx1.out.trans hx2)
    clear hx2 hP
    replace e1 := (hx1.out.block (Array.getElem?_eq_some_iff.1 e1).1).trans e1
    replace e2 := hx1.out.own e2
    replace e3 := hx1.out.own e3
    have lp2 := (Array.getElem?_eq_some_iff.1 e1).1
    replace k0 := Ks.frame (fun p T g h1 (h2 : ∀ a, 0 < g a → (fun _ => 0) a = 0) => TN.ext h1 hx1.out) k0 (fun _ _ => rfl)
    replace k2 := Ks.frame (fun p T g h1 (h2 : ∀ a, 0 < g a → (fun _ => 0) a = 0) => TN.ext h1 hx1.out) k2 (fun _ _ => rfl)
    have zk := node_c1 e1
    have zq := rd_ptr (Rd.of_own e3) hpi.out
    have hn0 : ((ps.length : Int) == 0) = false := by rw [beq_eq_false_iff_ne]; omega
    have hki : (i : Int) < (ps.length : Int) := by omega
    go_upto_region 4 with fail
    have I0 : (fun w' : World => w'.cell? ⟨p, 1, none⟩ = some (.slice (some ad) ps.length kc) ∧ w'.cell? (ad.add i) = some (.pointer (some ⟨q, 0, none⟩)) ∧ w'.cell? ⟨b, 0, none⟩ = some (.string e.key) ∧ w'.cell? ⟨b, 1, none⟩ = some (.int .i64 e.no)) w2.drew := ⟨zk, zq, z0, z1⟩
    have hxW := hid (hx1.out.drew_right)
    refine region_J (fun w' : World => w'.cell? ⟨p, 1, none⟩ = some (.slice (some ad) ps.length kc) ∧ w'.cell? (ad.add i) = some (.pointer (some ⟨q, 0, none⟩)) ∧ w'.cell? ⟨b, 0, none⟩ = some (.string e.key) ∧ w'.cell? ⟨b, 1, none⟩ = some (.int .i64 e.no)) 9 (by kernel_rfl) ?_
    replace e1 : w2.drew.heap[p]? = _ := e1
    replace e2 := (Ext.refl w2).drew_right.own e2
    replace e3 := (Ext.refl w2).drew_right.own e3
    replace k0 := Ks.frame (fun p T g h1 (h2 : ∀ a, 0 < g a → (fun _ => 0) a = 0) => TN.ext h1 (Ext.refl w2).drew_right) k0 (fun _ _ => rfl)
    replace k2 := Ks.frame (fun p T g h1 (h2 : ∀ a, 0 < g a → (fun _ => 0) a = 0) => TN.ext h1 (Ext.refl w2).drew_right) k2 (fun _ _ => rfl)
    clear z0 z1 zk zq hx1
    generalize w2.drew = W at *
    refine J_takeO 0 (v := ?vd0) rfl (by kernel_rfl) (by kernel_rfl) (by kernel_rfl) (by kernel_rfl) (fun _ _ _ h => h) (Or.inl ⟨by rfl, ?yd0⟩) I0 ?rd0
    case yd0 => (intro w hSw; obtain ⟨_, _, _, _⟩ := hSw; (go_simp; with_reducible rfl))
    simp only [Act.put, List.getElem_toArray, List.getElem_cons_zero, List.getElem_cons_succ, List.setIfInBounds_toArray, List.set_cons_zero, List.set_cons_succ]
    refine J_takeO 1 (v := ?vd1) rfl (by kernel_rfl) (by kernel_rfl) (by kernel_rfl) (by kernel_rfl) (fun _ _ _ h => h) (Or.inl ⟨by rfl, ?yd1⟩) I0 ?rd1
    case yd1 => (intro w hSw; obtain ⟨_, _, _, _⟩ := hSw; (go_simp; with_reducible rfl))
    simp only [Act.put, List.getElem_toArray, List.getElem_cons_zero, List.getElem_cons_succ, List.setIfInBounds_toArray, List.set_cons_zero, List.set_cons_succ]
    refine J_takeO 2 (v := ?vd2) rfl (by kernel_rfl) (by kernel_rfl) (by kernel_rfl) (by kernel_rfl) (fun _ _ _ h => h) (Or.inl ⟨by rfl, ?yd2⟩) I0 ?rd2
    case yd2 => (intro w hSw; obtain ⟨_, _, _, _⟩ := hSw; (go_simp; with_reducible rfl))
    simp only [Act.put, List.getElem_toArray, List.getElem_cons_zero, List.getElem_cons_succ, List.setIfInBounds_toArray, List.set_cons_zero, List.set_cons_succ]
    refine J_takeO 3 (v := ?vd3) rfl (by kernel_rfl) (by kernel_rfl) (by kernel_rfl) (by kernel_rfl) (fun _ _ _ h => h) (Or.inl ⟨by rfl, ?yd3⟩) I0 ?rd3
    case yd3 => (intro w hSw; obtain ⟨_, _, _, _⟩ := hSw; (go_simp; with_reducible rfl))
    simp only [Act.put, List.getElem_toArray, List.getElem_cons_zero, List.getElem_cons_succ, List.setIfInBounds_toArray, List.set_cons_zero, List.set_cons_succ]
    refine J_takeO 4 (v := ?vd4) rfl (by kernel_rfl) (by kernel_rfl) (by kernel_rfl) (by kernel_rfl) (fun _ _ _ h => h) (Or.inl ⟨by rfl, ?yd4⟩) I0 ?rd4
    case yd4 => (intro w hSw; obtain ⟨_, _, _, _⟩ := hSw; (go_simp; with_reducible rfl))
    simp only [Act.put, List.getElem_toArray, List.getElem_cons_zero, List.getElem_cons_succ, List.setIfInBounds_toArray, List.set_cons_zero, List.set_cons_succ]
    refine J_takeO 5 (v := ?vd5) rfl (by kernel_rfl) (by kernel_rfl) (by kernel_rfl) (by kernel_rfl) (fun _ _ _ h => h) (Or.inl ⟨by rfl, ?yd5⟩) I0 ?rd5
    case yd5 => (intro w hSw; obtain ⟨_, _, _, _⟩ := hSw; (go_simp; with_reducible rfl))
    simp only [Act.put, List.getElem_toArray, List.getElem_cons_zero, List.getElem_cons_succ, List.setIfInBounds_toArray, List.set_cons_zero, List.set_cons_succ]
    refine J_takeO 6 (v := ?vd6) rfl (by kernel_rfl) (by kernel_rfl) (by kernel_rfl) (by kernel_rfl) (fun _ _ _ h => h) (Or.inl ⟨by rfl, ?yd6⟩) I0 ?rd6
    case yd6 => (intro w hSw; obtain ⟨_, _, _, _⟩ := hSw; (go_simp; with_reducible rfl))
    simp only [Act.put, List.getElem_toArray, List.getElem_cons_zero, List.getElem_cons_succ, List.setIfInBounds_toArray, List.set_cons_zero, List.set_cons_succ]
    refine J_takeO 7 (v := ?vd7) rfl (by kernel_rfl) (by kernel_rfl) (by kernel_rfl) (by kernel_rfl) (fun _ _ _ h => h) (Or.inl ⟨by rfl, ?yd7⟩) I0 ?rd7
    case yd7 => (intro w hSw; obtain ⟨_, _, _, _⟩ := hSw; (go_simp; with_reducible rfl))
    simp only [Act.put, List.getElem_toArray, List.getElem_cons_zero, List.getElem_cons_succ, List.setIfInBounds_toArray, List.set_cons_zero, List.set_cons_succ]
    refine J_one 8 rfl (by kernel_rfl) (fun K hK => ?_)
    go_simp
    refine (ih'.out W hxW.out).mono ?_
    rintro e' w5 ⟨rfl, ht⟩
    obtain ⟨g1', t1, t2, t3, t4, t5, t6, t7, t8, t9⟩ := kid_turned (f := f) e1 e2 e3 hpi.out hKi.out k0 k2 (fun a => by rw [e4.out a, hg.out a]) hn.out (fun a ha => hfb.out a (Nat.le_trans hxW.out.size ha)) ht
    have hbc : ∀ j x, W.cell? ⟨b, j, none⟩ = some x → w5.cell? ⟨b, j, none⟩ = some x := fun j x hx => by
      rw [World.cell?_of_block (t9.2.2.2.2 b (World.block_lt_of_cell? _ _ hx) (hfb.out b (by have := hb0.out; omega)))]
      exact hx
    have I2 : (fun w' : World => w'.cell? ⟨p, 1, none⟩ = some (.slice (some ad) ps.length kc) ∧ w'.cell? (ad.add i) = some (.pointer (some ⟨q, 0, none⟩)) ∧ w'.cell? ⟨b, 0, none⟩ = some (.string e.key) ∧ w'.cell? ⟨b, 1, none⟩ = some (.int .i64 e.no)) w5 := ⟨node_c1 t2, rd_ptr (Rd.of_own t4) hpi.out, hbc 0 _ I0.2.2.1, hbc 1 _ I0.2.2.2⟩
    replace t1 := hid t1
    replace t2 := hid t2
    replace t3 := hid t3
    replace t4 := hid t4
    replace t5 := hid t5
    replace t6 := hid t6
    replace t7 := hid t7
    replace t8 := hid t8
    replace t9 := hid t9
    clear ht e1 e2 e3 k0 k2 hbc ih'
    refine hK _ _ ⟨fun _ => I2, ?_⟩
    clear hK K
    try simp only [Act.put, List.getElem_toArray, List.getElem_cons_zero, List.getElem_cons_succ, List.setIfInBounds_toArray, List.set_cons_zero, List.set_cons_succ]
    refine J_done (by kernel_rfl) (OnlyOn.normal ?_)
    obtain ⟨lq, kq, pk, gk, u1, u2, u3, u5, u4⟩ := t1.out.opn
    obtain ⟨Aq, cq, rfl, hrq⟩ := own_rd u2
    have hmq := Rd.max hrq
    have zk := I2.1
    have zq := I2.2.1
    have zq0 := node_c0 u1
    have lp5 := (Array.getElem?_eq_some_iff.1 t2.out).1
    have lq5 := (Array.getElem?_eq_some_iff.1 u1).1
    have hpl6 := hid u5.len
    replace u1 := hid u1
    replace u2 := hid u2
    replace u3 := hid u3
    replace u4 := hid u4
    replace u5 := hid u5
    clear I2 I0 hrq
    by_cases h5 : 4 < lk.length
    · have d5 : (4 : Int) < (lk.length : Int) := by omega
      have hl5 : Hid (lk.length = 5) := by unfold Hid; omega
      have hRs : Hid (R = splitT l ks i (.nd lk kk)) := hR.out.trans (if_pos h5)
      have hle5 : Hid (∀ a, one1 p a + ob (.slice A l.length c) a + ob (.slice (some ad) ps.length kc) a + (g0 a + (one1 q a + ob (.slice Aq lk.length cq) a + ob kq a + gk a) + g2 a) ≤ 1) := fun a => by have := t7.out a; rw [u4.out a] at this; exact this
      have hSp := hid (split_any (fun a => one1 p a + ob (.slice A l.length c) a + ob (.slice (some ad) ps.length kc) a + one1 q a + ob (.slice Aq lk.length cq) a + ob kq a) p q i l lk ps pk _ _ _ _ w5 t2.out u1.out t3.out t4.out (by have := u2.out; rw [hl5.out] at this ⊢; exact this) u3.out hpi.out hil (by omega) (by have := hkl.out; have := hpsl.out; omega) hl5.out (by have := hpl6.out; have := hk6.out; have := hl5.out; omega) (fun a => by have := hle5.out a; omega) (fun _ => rfl))
      go_wp2_with fail
      refine hSp.out.mono ?_
      rintro e' w6 ⟨rfl, r, lv', kv', lq', kq', lr, kr, tri⟩
      have hfin : Hid (Turned w w6 (h + 1) p f R) := by
        rw [hRs.out]
        refine Turned.left (split_done (w := W) (by omega) hl5.out t9.out hpi.out (fun a ha => ?_) hle5.out t5.out t6.out u5.out (fun _ => rfl) tri hil) hxW.out
        have := t8.out a ha
        rw [u4.out a] at this
        exact this
      clear tri hSp
      go_wp2_with fail
      go_end0
      exact ⟨rfl, hfin.out⟩
    · have d5 : ¬ (4 : Int) < (lk.length : Int) := by omega
      have hfin : Hid (Turned w w5 (h + 1) p f R) := by
        rw [hR.out, if_neg h5]
        refine Turned.left ⟨_, TN.shut t2.out t3.out t4.out (show Kd w5 (h + 1) ps (ks.set i (.nd lk kk)) (fun a => g0 a + g1' a + g2 a) from ?_) (fun _ => rfl), t7.out, t8.out, t9.out⟩ hxW.out
        have hks := set_cut (l := ks) (i := i) (by have := hpsl.out; omega) (BT.nd lk kk)
        have hps : ps = ps.take i ++ q :: ps.drop (i + 1) := by
          have := list_cut (l := ps) (i := i) (by omega)
          rw [(List.getElem?_eq_some_iff.1 hpi.out).2] at this
          exact this
        rw [hks]
        have hm := Ks.mid t5.out t1.out t6.out
        rw [← hps] at hm
        exact hm
      go_wp2_with fail
      go_end0
      exact ⟨rfl, hfin.out⟩
end Go.Proofs.Ytpijfiaecicpfaa
