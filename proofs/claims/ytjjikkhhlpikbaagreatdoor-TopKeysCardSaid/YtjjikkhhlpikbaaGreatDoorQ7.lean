/-
  An index in memory; putting an entry into it; Taking an entry out, plainly: the last entry, and the one that is asked for. No program in sight; Two kids beside each other: opened with their node, and shut again; fill: a kid with too few entries gets one, or is joined; last: the last entry is taken out of a node.
-/
import Derived.Test.YtjjikkhhlpikbaaGreatDoorQ6
import Derived.Test.YtjjikkhhlpikbaaGreatDoorQ5
set_option maxRecDepth 100000
set_option maxHeartbeats 40000000
set_option linter.unusedVariables false
set_option linter.unusedSimpArgs false
namespace Go.Proofs.YtjjikkhhlpikbaaGreatDoor
def lastT : Nat → BT → BT × Te
  | 0, .nd l ks => (.nd (l.take (l.length - 1)) ks, tth l (l.length - 1))
  | h + 1, .nd l ks => (fillT l (ks.set l.length (lastT h (kth ks l.length)).1) l.length, (lastT h (kth ks l.length)).2)
def takeT : Nat → BT → Te → BT
  | 0, .nd l ks, e => .nd (l.take (rankT l e) ++ l.drop (rankT l e + 1)) ks
  | h + 1, .nd l ks, e => if memT l e = true then fillT (l.set (rankT l e) (lastT h (kth ks (rankT l e))).2) (ks.set (rankT l e) (lastT h (kth ks (rankT l e))).1) (rankT l e)
    else fillT l (ks.set (rankT l e) (takeT h (kth ks (rankT l e)) e)) (rankT l e)
theorem setC_cut {α : Type} {l : List α} {i : Nat} {x : α} (h : i < l.length) : l.set i x = l.take i ++ x :: l.drop (i + 1) := by
  rw [List.set_eq_take_append_cons_drop, if_pos h]
theorem flat_set {h : Nat} {l : List Te} {ks : List BT} {i : Nat} {J : BT} (hlen : ks.length = l.length + 1) (hi : i ≤ l.length) :
    flat (h + 1) (.nd l (ks.set i J)) = wvp (l.take i) ((ks.take i).map (flat h)) ++ (flat h J ++ tlW (l.drop i) ((ks.drop (i + 1)).map (flat h))) := by
  rw [setC_cut (by omega)]
  have := one_flat (h := h) (a := l.take i) (b := l.drop i) (p := ks.take i) (q := ks.drop (i + 1)) (J := J) (by rw [List.length_take, List.length_take]; omega)
  rwa [List.take_append_drop] at this
theorem flat_at {h : Nat} {l : List Te} {ks : List BT} {i : Nat} (hlen : ks.length = l.length + 1) (hi : i ≤ l.length) :
    flat (h + 1) (.nd l ks) = wvp (l.take i) ((ks.take i).map (flat h)) ++ (flat h (kth ks i) ++ tlW (l.drop i) ((ks.drop (i + 1)).map (flat h))) := by
  have h1 := flat_set (h := h) (J := kth ks i) hlen hi
  rw [kth_get (by omega), List.set_getElem_self] at h1
  rw [kth_get (by omega)]
  exact h1
theorem kth_set {ks : List BT} {i : Nat} {J : BT} (hi : i < ks.length) : kth (ks.set i J) i = J := by
  rw [kth_get (by rw [List.length_set]; exact hi), List.getElem_set_self]
theorem kth_set_ne {ks : List BT} {i j : Nat} {J : BT} (hj : j < ks.length) (hne : j ≠ i) : kth (ks.set i J) j = kth ks j := by
  rw [kth_get (by rw [List.length_set]; exact hj), kth_get hj, List.getElem_set_ne (fun e => hne e.symm)]
theorem kid_ok {h : Nat} {l : List Te} {ks : List BT} (hs : Shp (h + 1) (.nd l ks)) {i : Nat} (hi : i ≤ l.length) : 2 ≤ (kth ks i).l.length ∧ (kth ks i).l.length ≤ 4 ∧ Shp h (kth ks i) := by
  have hl : ks.length = l.length + 1 := hs.1
  rw [kth_get (by omega)]
  exact hs.2 _ (List.getElem_mem _)
theorem near_set {h : Nat} {l l' : List Te} {ks : List BT} (hs : Shp (h + 1) (.nd l ks)) (hl : l'.length = l.length) (hn : 1 ≤ l.length) {i : Nat} (hi : i ≤ l.length) {J : BT} (hJ : 1 ≤ J.l.length ∧ J.l.length ≤ 4 ∧ Shp h J) : Near h l' (ks.set i J) i := by
  have hk : ks.length = l.length + 1 := hs.1
  refine ⟨by rw [List.length_set, hl]; exact hk, by omega, by omega, fun j hj hne => ?_, ?_⟩
  · rw [List.length_set] at hj
    rw [kth_set_ne hj hne]
    exact kid_ok hs (by omega)
  · rw [kth_set (by omega)]
    exact hJ
theorem last_ok : ∀ (h : Nat) (T : BT), Shp h T → 1 ≤ T.l.length → Shp h (lastT h T).1 ∧ flat h T = flat h (lastT h T).1 ++ [(lastT h T).2] ∧ T.l.length ≤ (lastT h T).1.l.length + 1 ∧ (lastT h T).1.l.length ≤ T.l.length
  | 0, .nd l ks, hs, h1 => by
    have h1' : 1 ≤ l.length := h1
    obtain ⟨-, -, e1, -⟩ := cutLast hs h1'
    refine ⟨hs, e1, ?_, ?_⟩
    · show l.length ≤ (l.take (l.length - 1)).length + 1
      rw [List.length_take]; omega
    · show (l.take (l.length - 1)).length ≤ l.length
      rw [List.length_take]; omega
  | h + 1, .nd l ks, hs, h1 => by
    have h1' : 1 ≤ l.length := h1
    have hk := kid_ok hs (Nat.le_refl l.length)
    obtain ⟨a, b, c, d⟩ := last_ok h (kth ks l.length) hk.2.2 (by omega)
    have hN := near_set (l' := l) (J := (lastT h (kth ks l.length)).1) hs rfl h1' (Nat.le_refl _) ⟨by omega, by omega, a⟩
    obtain ⟨f1, f2, f3, f4⟩ := fill_ok hN
    refine ⟨f1, ?_, f3, f4⟩
    show flat (h + 1) (.nd l ks) = flat (h + 1) (fillT l (ks.set l.length (lastT h (kth ks l.length)).1) l.length) ++ [(lastT h (kth ks l.length)).2]
    rw [f2, flat_at hs.1 (Nat.le_refl _), flat_set hs.1 (Nat.le_refl _), b, List.drop_length]
    simp [tlW]
theorem at_rank {l : List Te} (hS : Srt l) {e : Te} (he : e ∈ l) : rankT l e < l.length ∧ l.drop (rankT l e) = e :: l.drop (rankT l e + 1) := by
  obtain ⟨h1, h2, h3⟩ := rank_cut hS e
  have hd : e ∈ l.drop (rankT l e) := by
    rw [← List.take_append_drop (rankT l e) l] at he
    rcases List.mem_append.1 he with h | h
    · have := h2 e h
      rw [cmpT_refl] at this
      exact absurd this (by decide)
    · exact h
  have hlt : rankT l e < l.length := by
    rcases Nat.lt_or_ge (rankT l e) l.length with h | h
    · exact h
    · rw [List.drop_of_length_le h] at hd; cases hd
  refine ⟨hlt, ?_⟩
  have hc : l.drop (rankT l e) = l[rankT l e] :: l.drop (rankT l e + 1) := List.drop_eq_getElem_cons hlt
  have hSd : Srt (l.drop (rankT l e)) := hS.sublist (List.drop_sublist _ _)
  rw [hc] at hd hSd h3 ⊢
  rcases List.mem_cons.1 hd with h | h
  · rw [← h]
  · exact absurd ((srt_cons.1 hSd).1 e h) (h3 _ List.mem_cons_self)
theorem del_head (e : Te) (R : List Te) : delT (e :: R) e = R := by
  unfold delT
  rw [cmpT_refl]
  simp
theorem del_cut {l : List Te} (hS : Srt l) {e : Te} (he : e ∈ l) : delT l e = l.take (rankT l e) ++ l.drop (rankT l e + 1) := by
  obtain ⟨h1, h2, h3⟩ := rank_cut hS e
  obtain ⟨g1, g2⟩ := at_rank hS he
  have e1 : l = l.take (rankT l e) ++ e :: l.drop (rankT l e + 1) := by
    conv => lhs; rw [← List.take_append_drop (rankT l e) l, g2]
  conv => lhs; rw [e1]
  rw [delT_app (fun x hx => by have := h2 x hx; omega), del_head]
theorem tlW_head (l2 : List Te) (ms : List (List Te)) : ∃ R, ∀ x, tlW (x :: l2) ms = x :: R := by
  cases ms with
  | nil => exact ⟨l2, fun _ => rfl⟩
  | cons m ms => exact ⟨m ++ tlW l2 ms, fun _ => rfl⟩
theorem take_ok : ∀ (h : Nat) (T : BT) (e : Te), Shp h T → (h ≠ 0 → 1 ≤ T.l.length) → Srt (flat h T) → e ∈ flat h T →
    Shp h (takeT h T e) ∧ flat h (takeT h T e) = delT (flat h T) e ∧ T.l.length ≤ (takeT h T e).l.length + 1 ∧ (takeT h T e).l.length ≤ T.l.length
  | 0, .nd l ks, e, hs, h1, hS, he => by
    obtain ⟨g1, -⟩ := at_rank (l := l) hS he
    refine ⟨hs, (del_cut (l := l) hS he).symm, ?_, ?_⟩
    · show l.length ≤ (l.take (rankT l e) ++ l.drop (rankT l e + 1)).length + 1
      rw [List.length_append, List.length_take, List.length_drop]; omega
    · show (l.take (rankT l e) ++ l.drop (rankT l e + 1)).length ≤ l.length
      rw [List.length_append, List.length_take, List.length_drop]; omega
  | h + 1, .nd l ks, e, hs, h1, hS, he => by
    have h1' : 1 ≤ l.length := h1 (Nat.succ_ne_zero _)
    obtain ⟨hl, K, hK, hf, hA, hB, hSK⟩ := node_lt hs hS e
    obtain ⟨r1, r2, r3⟩ := rank_cut hl e
    have hlen : ks.length = l.length + 1 := hs.1
    have hKe : kth ks (rankT l e) = K := by rw [kth_get (by omega)]; exact (List.getElem?_eq_some_iff.1 hK).2
    have hk := kid_ok hs r1
    have hfl := flat_at (h := h) hlen r1
    rw [hKe] at hk hfl
    by_cases hm : memT l e = true
    · obtain ⟨g1, g2⟩ := at_rank hl (memT_iff.1 hm)
      obtain ⟨a, b, c, d⟩ := last_ok h K hk.2.2 (by omega)
      have hN := near_set (l' := l.set (rankT l e) (lastT h K).2) (J := (lastT h K).1) hs (List.length_set ..) h1' r1 ⟨by omega, by omega, a⟩
      obtain ⟨f1, f2, f3, f4⟩ := fill_ok hN
      have et : takeT (h + 1) (.nd l ks) e = fillT (l.set (rankT l e) (lastT h K).2) (ks.set (rankT l e) (lastT h K).1) (rankT l e) := by
        show (if memT l e = true then _ else _) = _
        rw [if_pos hm, hKe]
      rw [List.length_set] at f3 f4
      rw [et]
      refine ⟨f1, ?_, f3, f4⟩
      obtain ⟨R, hR⟩ := tlW_head (l.drop (rankT l e + 1)) ((ks.drop (rankT l e + 1)).map (flat h))
      have hcut : l.set (rankT l e) (lastT h K).2 = l.take (rankT l e) ++ (lastT h K).2 :: l.drop (rankT l e + 1) := setC_cut g1
      have hx : (l.take (rankT l e)).length = rankT l e := by rw [List.length_take]; omega
      have e1 : (l.set (rankT l e) (lastT h K).2).take (rankT l e) = l.take (rankT l e) := by rw [hcut]; exact List.take_left' hx
      have e2 : (l.set (rankT l e) (lastT h K).2).drop (rankT l e) = (lastT h K).2 :: l.drop (rankT l e + 1) := by rw [hcut]; exact List.drop_left' hx
      rw [f2, flat_set (by rw [List.length_set]; exact hlen) (by rw [List.length_set]; exact r1), e1, e2, hR]
      rw [g2, hR] at hfl
      rw [hfl] at hS ⊢
      have hS2 := srt_app.1 hS
      have hS3 := srt_app.1 hS2.2.1
      rw [delT_app (fun x hx => by have := hA x hx; omega), delT_app (fun x hx => by have := hS3.2.2 x hx e List.mem_cons_self; omega), del_head, b]
      simp
    · have hel : e ∉ l := fun h => hm (memT_iff.2 h)
      have heK : e ∈ flat h K := by
        obtain ⟨K', hK', hmm⟩ := mem_node hs hS e
        rw [hK] at hK'
        obtain rfl := Option.some.inj hK'
        have hmm2 : memT (flat (h + 1) (.nd l ks)) e = true := memT_iff.2 he
        rw [hmm] at hmm2
        rcases Bool.or_eq_true_iff.1 hmm2 with h | h
        · exact absurd h hm
        · exact memT_iff.1 h
      obtain ⟨a, b, c, d⟩ := take_ok h K e hk.2.2 (fun _ => by omega) hSK heK
      have hN := near_set (l' := l) (J := takeT h K e) hs rfl h1' r1 ⟨by omega, by omega, a⟩
      obtain ⟨f1, f2, f3, f4⟩ := fill_ok hN
      have et : takeT (h + 1) (.nd l ks) e = fillT l (ks.set (rankT l e) (takeT h K e)) (rankT l e) := by
        show (if memT l e = true then _ else _) = _
        rw [if_neg hm, hKe]
      rw [et]
      refine ⟨f1, ?_, f3, f4⟩
      rw [f2, flat_set hlen r1, b, hfl, delT_app (fun x hx => by have := hA x hx; omega), delT_app2 heK]
def rootT : Nat → BT → Nat × BT
  | 0, T => (0, T)
  | h + 1, .nd l ks => if l = [] then (h, kth ks 0) else (h + 1, .nd l ks)
theorem root_ok {h : Nat} {T : BT} (hs : Shp h T) (h4 : T.l.length ≤ 4) : Shp (rootT h T).1 (rootT h T).2 ∧ flat (rootT h T).1 (rootT h T).2 = flat h T ∧ (rootT h T).2.l.length ≤ 4 ∧ ((rootT h T).1 ≠ 0 → 1 ≤ (rootT h T).2.l.length) := by
  match h, T, hs, h4 with
  | 0, T, hs, h4 => exact ⟨hs, rfl, h4, fun h => absurd rfl h⟩
  | h + 1, .nd l ks, hs, h4 =>
    by_cases hl : l = []
    · have e : rootT (h + 1) (.nd l ks) = (h, kth ks 0) := if_pos hl
      rw [e]
      subst hl
      have hk := kid_ok hs (Nat.le_refl 0)
      refine ⟨hk.2.2, ?_, hk.2.1, fun _ => by have := hk.1; show 1 ≤ (kth ks 0).l.length; omega⟩
      have hlen : ks.length = 1 := hs.1
      have hd : ks.drop (0 + 1) = [] := List.drop_eq_nil_of_le (by omega)
      rw [flat_at (h := h) hs.1 (Nat.le_refl 0), hd]
      simp [wvp, tlW]
    · have e : rootT (h + 1) (.nd l ks) = (h + 1, .nd l ks) := if_neg hl
      rw [e]
      refine ⟨hs, rfl, h4, fun _ => ?_⟩
      rcases Nat.eq_zero_or_pos l.length with h0 | h0
      · exact absurd (List.eq_nil_of_length_eq_zero h0) hl
      · exact h0
open Go.RowKit Go.Shelf
theorem kth_some {ks : List BT} {i : Nat} (h : i < ks.length) : ks[i]? = some (kth ks i) := by rw [kth_get h, List.getElem?_eq_getElem h]
theorem Ks.two {R : Nat → BT → (Nat → Nat) → Prop} {j : Nat} {ps : List Nat} {ks : List BT} {g : Nat → Nat} (k : Ks R ps ks g) (hj : j + 1 < ks.length) :
    ∃ q r g0 g1 g2 g3, ps[j]? = some q ∧ ps[j + 1]? = some r ∧ R q (kth ks j) g1 ∧ R r (kth ks (j + 1)) g2 ∧ Ks R (ps.take j) (ks.take j) g0 ∧ Ks R (ps.drop (j + 2)) (ks.drop (j + 2)) g3 ∧ ∀ a, g a = g0 a + g1 a + g2 a + g3 a := by
  obtain ⟨q, g0, g1, g4, h1, h2, h3, h4, h5⟩ := k.cut (kth_some (show j < ks.length by omega))
  obtain ⟨r, z0, g2, g3, i1, i2, i3, i4, i5⟩ := h4.cut (i := 0) (K := kth ks (j + 1)) (by rw [List.getElem?_drop, Nat.add_zero]; exact kth_some hj)
  rw [List.getElem?_drop, Nat.add_zero] at i1
  rw [List.drop_drop, List.drop_drop] at i4
  refine ⟨q, r, g0, g1, g2, g3, h1, i1, h2, i2, h3, i4, fun a => ?_⟩
  have z : z0 a = 0 := i3 a
  rw [h5 a, i5 a, z]
  omega
def F9 (p q r : Nat) (lv kv lq kq lr kr : Value) (a : Nat) : Nat := one1 p a + ob lv a + ob kv a + one1 q a + ob lq a + ob kq a + one1 r a + ob lr a + ob kr a
structure Pair (w : World) (h p j : Nat) (l : List Te) (ks : List BT) (f : Nat → Nat) (q r : Nat) (lv kv vq kq vr kr : Value) (ps pq pr : List Nat) (gq gr g0 g3 : Nat → Nat) : Prop where
  tri : Tri (F9 p q r lv kv vq kq vr kr) w w p q r lv kv vq kq vr kr l.length ps.length (kth ks j).l.length pq.length (kth ks (j + 1)).l.length pr.length (tents l) (ptrs ps) (tents (kth ks j).l) (ptrs pq) (tents (kth ks (j + 1)).l) (ptrs pr)
  hq : ps[j]? = some q
  hr : ps[j + 1]? = some r
  dq : Kd w h pq (kth ks j).ks gq
  dr : Kd w h pr (kth ks (j + 1)).ks gr
  k0 : Ks (TN w h) (ps.take j) (ks.take j) g0
  k3 : Ks (TN w h) (ps.drop (j + 2)) (ks.drop (j + 2)) g3
  sum : ∀ a, f a = F9 p q r lv kv vq kq vr kr a + (gq a + gr a) + (g0 a + g3 a)
  n1 : ∀ a, f a ≤ 1
  pl : ps.length = ks.length
theorem TN.pair {w : World} {h p j : Nat} {l : List Te} {ks : List BT} {f : Nat → Nat} (hT : TN w (h + 1) p (.nd l ks) f) (hn : ∀ a, f a ≤ 1) (hj : j + 1 < ks.length) :
    ∃ q r lv kv vq kq vr kr ps pq pr gq gr g0 g3, Pair w h p j l ks f q r lv kv vq kq vr kr ps pq pr gq gr g0 g3 := by
  obtain ⟨lv, kv, ps, g, e1, e2, e3, e5, e4⟩ := hT
  obtain ⟨q, r, g0, g1, g2, g3, h1, h2, h3, h4, h5, h6, h7⟩ := e5.two hj
  rw [← nd_eta (kth ks j)] at h3
  rw [← nd_eta (kth ks (j + 1))] at h4
  obtain ⟨vq, kq, pq, gq, a1, a2, a3, a5, a4⟩ := h3.opn
  obtain ⟨vr, kr, pr, gr, b1, b2, b3, b5, b4⟩ := h4.opn
  have hs : ∀ a, f a = F9 p q r lv kv vq kq vr kr a + (gq a + gr a) + (g0 a + g3 a) := fun a => by
    rw [e4 a, h7 a, a4 a, b4 a]
    unfold F9
    omega
  refine ⟨q, r, lv, kv, vq, kq, vr, kr, ps, pq, pr, gq, gr, g0, g3, ⟨e1, a1, b1, e2, e3, a2, a3, b2, b3, fun a => ?_, FR.of_ext (Ext.refl w), fun a ha => Nat.le_refl _⟩, h1, h2, a5, b5, h5, h6, hs, hn, e5.len⟩
  have := hs a
  have := hn a
  unfold F9 at *
  omega
theorem Kd.app {w : World} {h : Nat} {ps qs : List Nat} {ks ms : List BT} {f g : Nat → Nat} (k : Kd w h ps ks f) (m : Kd w h qs ms g) : Kd w h (ps ++ qs) (ks ++ ms) (fun a => f a + g a) := by
  cases h with
  | zero =>
    obtain ⟨rfl, rfl, hf⟩ := k
    obtain ⟨rfl, rfl, hg⟩ := m
    exact ⟨rfl, rfl, fun a => by show f a + g a = 0; rw [hf a, hg a]⟩
  | succ h => exact Ks.app k m
section
variable {w w' : World} {h p j q r : Nat} {l : List Te} {ks : List BT} {f : Nat → Nat} {lv kv vq kq vr kr lv' kv' vq' kq' vr' kr' : Value} {ps pq pr ps' pq' pr' : List Nat} {gq gr g0 g3 gq' gr' : Nat → Nat} {L lq' lr' : List Te} {kq1 kr1 : List BT}
theorem Pair.two (P : Pair w h p j l ks f q r lv kv vq kq vr kr ps pq pr gq gr g0 g3)
    (T : Tri (F9 p q r lv kv vq kq vr kr) w w' p q r lv' kv' vq' kq' vr' kr' L.length ps.length lq'.length pq'.length lr'.length pr'.length (tents L) (ptrs ps) (tents lq') (ptrs pq') (tents lr') (ptrs pr'))
    (k1 : Kd w h pq' kq1 gq') (k2 : Kd w h pr' kr1 gr') (hk : ∀ a, gq' a + gr' a = gq a + gr a) : Turned w w' (h + 1) p f (.nd L (ks.take j ++ .nd lq' kq1 :: .nd lr' kr1 :: ks.drop (j + 2))) := by
  have b0 := Ks.bound (fun p T g h1 => TN.bound h1) P.k0
  have b3 := Ks.bound (fun p T g h1 => TN.bound h1) P.k3
  have b1 := k1.bound
  have b2 := k2.bound
  have z : ∀ a, 0 < gq' a + gr' a + g0 a + g3 a → F9 p q r lv kv vq kq vr kr a = 0 := fun a ha => by have := P.n1 a; have := P.sum a; have := hk a; omega
  have c0 := Ks.frame (fun _ _ _ h1 h2 => TN.frame T.fr h1 h2) P.k0 (fun a ha => z a (by omega))
  have c3 := Ks.frame (fun _ _ _ h1 h2 => TN.frame T.fr h1 h2) P.k3 (fun a ha => z a (by omega))
  have c1 := k1.frame T.fr (fun a ha => z a (by omega))
  have c2 := k2.frame T.fr (fun a ha => z a (by omega))
  have nq : TN w' h q (.nd lq' kq1) (fun a => one1 q a + ob vq' a + ob kq' a + gq' a) := TN.shut T.hq T.o3 T.o4 c1 (fun _ => rfl)
  have nr : TN w' h r (.nd lr' kr1) (fun a => one1 r a + ob vr' a + ob kr' a + gr' a) := TN.shut T.hr T.o5 T.o6 c2 (fun _ => rfl)
  have kr2 : Ks (TN w' h) (r :: ps.drop (j + 2)) (.nd lr' kr1 :: ks.drop (j + 2)) (fun a => (one1 r a + ob vr' a + ob kr' a + gr' a) + g3 a) := ⟨_, _, nr, c3, fun _ => rfl⟩
  have kall := Ks.mid c0 nq kr2
  obtain ⟨q1, q2⟩ := List.getElem?_eq_some_iff.1 P.hq
  obtain ⟨r1, r2⟩ := List.getElem?_eq_some_iff.1 P.hr
  have hps : ps.take j ++ q :: r :: ps.drop (j + 2) = ps := by
    have e1 := list_cut (l := ps) (i := j) q1
    rw [q2, List.drop_eq_getElem_cons r1, r2] at e1
    exact e1.symm
  rw [hps] at kall
  refine ⟨_, TN.shut T.hp T.o1 T.o2 kall (fun _ => rfl), fun a => ?_, fun a ha => ?_, T.fr.mono (fun k hk' h0 => by have := P.sum k; omega)⟩
  · by_cases hs : a < w.heap.size
    · have h1 := T.le a hs
      have h2 := P.n1 a
      have h3 := P.sum a
      have h4 := hk a
      show one1 p a + ob lv' a + ob kv' a + (g0 a + (one1 q a + ob vq' a + ob kq' a + gq' a) + (one1 r a + ob vr' a + ob kr' a + gr' a + g3 a)) ≤ 1
      omega
    · have h1 := T.nd a
      have h2 := b0 a (by omega)
      have h3 := b1 a (by omega)
      have h4 := b2 a (by omega)
      have h5 := b3 a (by omega)
      show one1 p a + ob lv' a + ob kv' a + (g0 a + (one1 q a + ob vq' a + ob kq' a + gq' a) + (one1 r a + ob vr' a + ob kr' a + gr' a + g3 a)) ≤ 1
      omega
  · have h1 := T.le a ha
    have h3 := P.sum a
    have h4 := hk a
    show one1 p a + ob lv' a + ob kv' a + (g0 a + (one1 q a + ob vq' a + ob kq' a + gq' a) + (one1 r a + ob vr' a + ob kr' a + gr' a + g3 a)) ≤ f a
    omega
theorem Pair.one (P : Pair w h p j l ks f q r lv kv vq kq vr kr ps pq pr gq gr g0 g3)
    (T : Tri (F9 p q r lv kv vq kq vr kr) w w' p q r lv' kv' vq' kq' vr' kr' L.length ps'.length lq'.length pq'.length lr'.length pr'.length (tents L) (ptrs ps') (tents lq') (ptrs pq') (tents lr') (ptrs pr'))
    (hps' : ps' = ps.take (j + 1) ++ ps.drop (j + 2))
    (k1 : Kd w h pq' kq1 gq') (hk : ∀ a, gq' a = gq a + gr a) : Turned w w' (h + 1) p f (.nd L (ks.take j ++ .nd lq' kq1 :: ks.drop (j + 2))) := by
  have b0 := Ks.bound (fun p T g h1 => TN.bound h1) P.k0
  have b3 := Ks.bound (fun p T g h1 => TN.bound h1) P.k3
  have b1 := k1.bound
  have z : ∀ a, 0 < gq' a + g0 a + g3 a → F9 p q r lv kv vq kq vr kr a = 0 := fun a ha => by have := P.n1 a; have := P.sum a; have := hk a; omega
  have c0 := Ks.frame (fun _ _ _ h1 h2 => TN.frame T.fr h1 h2) P.k0 (fun a ha => z a (by omega))
  have c3 := Ks.frame (fun _ _ _ h1 h2 => TN.frame T.fr h1 h2) P.k3 (fun a ha => z a (by omega))
  have c1 := k1.frame T.fr (fun a ha => z a (by omega))
  have nq : TN w' h q (.nd lq' kq1) (fun a => one1 q a + ob vq' a + ob kq' a + gq' a) := TN.shut T.hq T.o3 T.o4 c1 (fun _ => rfl)
  have kall := Ks.mid c0 nq c3
  obtain ⟨q1, q2⟩ := List.getElem?_eq_some_iff.1 P.hq
  have hps : ps.take j ++ q :: ps.drop (j + 2) = ps' := by
    rw [hps', List.take_add_one, P.hq]
    simp
  rw [hps] at kall
  refine ⟨_, TN.shut T.hp T.o1 T.o2 kall (fun _ => rfl), fun a => ?_, fun a ha => ?_, T.fr.mono (fun k hk' h0 => by have := P.sum k; omega)⟩
  · by_cases hs : a < w.heap.size
    · have h1 := T.le a hs
      have h2 := P.n1 a
      have h3 := P.sum a
      have h4 := hk a
      show one1 p a + ob lv' a + ob kv' a + (g0 a + (one1 q a + ob vq' a + ob kq' a + gq' a) + g3 a) ≤ 1
      omega
    · have h1 := T.nd a
      have h2 := b0 a (by omega)
      have h3 := b1 a (by omega)
      have h5 := b3 a (by omega)
      show one1 p a + ob lv' a + ob kv' a + (g0 a + (one1 q a + ob vq' a + ob kq' a + gq' a) + g3 a) ≤ 1
      omega
  · have h1 := T.le a ha
    have h3 := P.sum a
    have h4 := hk a
    show one1 p a + ob lv' a + ob kv' a + (g0 a + (one1 q a + ob vq' a + ob kq' a + gq' a) + g3 a) ≤ f a
    omega
end
theorem Shp.kn {h : Nat} {K : BT} (hs : Shp h K) : K.ks.length = 0 ∨ K.ks.length = K.l.length + 1 := by
  obtain ⟨l, ks⟩ := K
  cases h with
  | zero => left; have : ks = [] := hs; rw [this]; rfl
  | succ h => exact .inr hs.1
section
variable {w : World} {h p i j : Nat} {l : List Te} {ks : List BT} {f : Nat → Nat}
theorem left_T (hT : TN w (h + 1) p (.nd l ks) f) (hn : ∀ a, f a ≤ 1) (hkl : ks.length = l.length + 1) (hl : l.length ≤ 4) (hi : i = j + 1) (hj : j < l.length) (s1 : Shp h (kth ks j)) (s2 : Shp h (kth ks i)) (n1 : 1 ≤ (kth ks j).l.length) (n2 : (kth ks j).l.length ≤ 4) (n3 : (kth ks i).l.length ≤ 4) :
    Calls Tryz.prog 86 #[.pointer (some ⟨p, 0, none⟩), .int .i64 i] w fun e w' => e = .returned (.tuple #[]) ∧ Turned w w' (h + 1) p f (leftT l ks j) := by
  subst hi
  obtain ⟨q, r, lv, kv, vq, kq, vr, kr, ps, pq, pr, gq, gr, g0, g3, P⟩ := hT.pair hn (j := j) (by omega)
  have hpl := P.pl
  have hpq := P.dq.len
  have hpr := P.dr.len
  have kq' := s1.kn
  have kr' := s2.kn
  obtain ⟨m, hm⟩ : ∃ m, (kth ks j).l.length = m + 1 := ⟨(kth ks j).l.length - 1, by omega⟩
  have T := P.tri
  rw [hm] at T
  have ept : pq.take (m + 1) = pq.take (pq.length - 1) := by
    rcases kq' with h0 | h0
    · rw [List.eq_nil_of_length_eq_zero (hpq.trans h0)]; simp
    · rw [show pq.length - 1 = m + 1 by omega]
  have epd : pq.drop (m + 1) = pq.drop (pq.length - 1) := by
    rcases kq' with h0 | h0
    · rw [List.eq_nil_of_length_eq_zero (hpq.trans h0)]; simp
    · rw [show pq.length - 1 = m + 1 by omega]
  refine (left_any _ p q r (j + 1) j m l (kth ks j).l (kth ks (j + 1)).l ps pq pr lv kv vq kq vr kr w T P.hq P.hr rfl hj hm (by omega) (by omega) (by omega) (by omega) (by omega) (by omega) _ _ _ _ _ rfl rfl rfl rfl rfl).mono ?_
  rintro e w' ⟨rfl, lv', kv', vq', kq1, vr', kr1, T'⟩
  refine ⟨rfl, ?_⟩
  obtain ⟨g1, g2, m1, m2, m3⟩ := P.dq.parts (m := pq.length - 1)
  rw [ept, epd] at T'
  have := P.two (kq1 := (kth ks j).ks.take (pq.length - 1)) (kr1 := (kth ks j).ks.drop (pq.length - 1) ++ (kth ks (j + 1)).ks) T' m1 (m2.app P.dr) (fun a => by show g1 a + (g2 a + gr a) = gq a + gr a; rw [m3 a]; omega)
  rw [setC_cut hj] at this
  unfold leftT
  rw [show (kth ks j).ks.length - 1 = pq.length - 1 by omega, show (kth ks j).l.length - 1 = m by omega]
  exact this
theorem right_T (hT : TN w (h + 1) p (.nd l ks) f) (hn : ∀ a, f a ≤ 1) (hkl : ks.length = l.length + 1) (hl : l.length ≤ 4) (hj : j < l.length) (s1 : Shp h (kth ks j)) (s2 : Shp h (kth ks (j + 1))) (n1 : 1 ≤ (kth ks (j + 1)).l.length) (n2 : (kth ks j).l.length ≤ 4) (n3 : (kth ks (j + 1)).l.length ≤ 4) :
    Calls Tryz.prog 87 #[.pointer (some ⟨p, 0, none⟩), .int .i64 j] w fun e w' => e = .returned (.tuple #[]) ∧ Turned w w' (h + 1) p f (rightT l ks j) := by
  obtain ⟨q, r, lv, kv, vq, kq, vr, kr, ps, pq, pr, gq, gr, g0, g3, P⟩ := hT.pair hn (j := j) (by omega)
  have hpl := P.pl
  have hpq := P.dq.len
  have hpr := P.dr.len
  have kq' := s1.kn
  have kr' := s2.kn
  obtain ⟨m, hm⟩ : ∃ m, (kth ks (j + 1)).l.length = m + 1 := ⟨(kth ks (j + 1)).l.length - 1, by omega⟩
  have T := P.tri
  rw [hm] at T
  refine (right_any _ p q r (j + 1) j m l (kth ks j).l (kth ks (j + 1)).l ps pq pr lv kv vq kq vr kr w T P.hq P.hr rfl hj hm (by omega) (by omega) (by omega) (by omega) (by omega) (by omega) _ _ _ _ _ rfl rfl rfl rfl rfl).mono ?_
  rintro e w' ⟨rfl, lv', kv', vq', kq1, vr', kr1, T'⟩
  refine ⟨rfl, ?_⟩
  obtain ⟨g1, g2, m1, m2, m3⟩ := P.dr.parts (m := 1)
  have := P.two (kq1 := (kth ks j).ks ++ (kth ks (j + 1)).ks.take 1) (kr1 := (kth ks (j + 1)).ks.drop 1) T' (P.dq.app m1) m2 (fun a => by show gq a + g1 a + g2 a = gq a + gr a; rw [m3 a]; omega)
  rw [setC_cut hj] at this
  exact this
theorem join_T (hT : TN w (h + 1) p (.nd l ks) f) (hn : ∀ a, f a ≤ 1) (hkl : ks.length = l.length + 1) (hl : l.length ≤ 4) (hj : j < l.length) (s1 : Shp h (kth ks j)) (s2 : Shp h (kth ks (j + 1))) (n2 : (kth ks j).l.length ≤ 4) (n3 : (kth ks (j + 1)).l.length ≤ 4) :
    Calls Tryz.prog 88 #[.pointer (some ⟨p, 0, none⟩), .int .i64 j] w fun e w' => e = .returned (.tuple #[]) ∧ Turned w w' (h + 1) p f (joinT l ks j) := by
  obtain ⟨q, r, lv, kv, vq, kq, vr, kr, ps, pq, pr, gq, gr, g0, g3, P⟩ := hT.pair hn (j := j) (by omega)
  have hpl := P.pl
  have hpq := P.dq.len
  have hpr := P.dr.len
  have kq' := s1.kn
  have kr' := s2.kn
  refine (join_any _ p q r (j + 1) j (j + 2) l (kth ks j).l (kth ks (j + 1)).l ps pq pr lv kv vq kq vr kr w P.tri P.hq P.hr rfl rfl hj (by omega) (by omega) (by omega) (by omega) (by omega) (by omega) _ _ _ _ rfl rfl rfl rfl).mono ?_
  rintro e w' ⟨rfl, lv', kv', vq', kq1, vr', kr1, T'⟩
  refine ⟨rfl, ?_⟩
  exact P.one (kq1 := (kth ks j).ks ++ (kth ks (j + 1)).ks) T' rfl (P.dq.app P.dr) (fun _ => rfl)
end
open Go.RowKit Go.Shelf
theorem kid_cells {w : World} {h p : Nat} {l : List Te} {ks : List BT} {f : Nat → Nat} (hT : TN w (h + 1) p (.nd l ks) f) (h0 : 0 < ks.length) : ∃ A c kad kc, w.cell? ⟨p, 0, none⟩ = some (.slice A l.length c) ∧ w.cell? ⟨p, 1, none⟩ = some (.slice (some kad) ks.length kc) ∧ ks.length ≤ kc ∧ kc ≤ 9223372036854775807 ∧ ∀ k, k < ks.length → ∃ q A c, w.cell? (kad.add k) = some (.pointer (some ⟨q, 0, none⟩)) ∧ w.cell? ⟨q, 0, none⟩ = some (.slice A (kth ks k).l.length c) ∧ q < w.heap.size := by
  obtain ⟨lv, kv, ps, g, e1, e2, e3, e5, e4⟩ := hT
  have hl := e5.len
  obtain ⟨A, c, rfl, hr⟩ := own_rd e2
  obtain ⟨kA, kc, rfl, hkr⟩ := own_rd e3
  obtain ⟨kad, rfl, -⟩ := hkr.2.2.2 (by omega)
  have hm := Rd.max hkr
  refine ⟨A, c, kad, kc, node_c0 e1, by rw [← hl]; exact node_c1 e1, by omega, by omega, fun k hk => ?_⟩
  obtain ⟨q, g0, g1, g2, hq, hK, -⟩ := e5.cut (kth_some hk)
  rw [← nd_eta (kth ks k)] at hK
  obtain ⟨A', c', kA', kn, kc', z0, -⟩ := hK.cells
  have lq := World.block_lt_of_cell? _ _ z0
  exact ⟨q, A', c', rd_ptr hkr hq, z0, lq⟩
theorem fill_A (p q i L N n c kc cq : Nat) (A Aq : Option Addr) (kad : Addr) (w : World) (z0 : w.cell? ⟨p, 0, none⟩ = some (.slice A L c)) (z1 : w.cell? ⟨p, 1, none⟩ = some (.slice (some kad) N kc)) (y0 : w.cell? (kad.add i) = some (.pointer (some ⟨q, 0, none⟩))) (y1 : w.cell? ⟨q, 0, none⟩ = some (.slice Aq n cq)) (lq : q < w.heap.size) (hi : i < N) (hN : N ≤ 10) (hL : L ≤ 10) (hn : n ≤ 10) (h2 : 2 ≤ n) :
    Calls Tryz.prog 53 #[.pointer (some ⟨p, 0, none⟩), .int .i64 i] w (fun e w' => e = .returned (.tuple #[]) ∧ w = w') := by
  have lp := World.block_lt_of_cell? _ _ z0
  dsimp only at lp
  have hiN : (i : Int) < (N : Int) := by omega
  have f1 : (2 : Int) ≤ (n : Int) := by omega
  go_enter Tryz.func53, Tryz.ntmps53
  go_wp2_with fail
  refine bodyPost_ret (results_none rfl _ _ _) rfl ?_
  exact ⟨rfl, rfl⟩
theorem fill_B (p q i L N n c kc cq : Nat) (A Aq : Option Addr) (kad : Addr) (w : World) (z0 : w.cell? ⟨p, 0, none⟩ = some (.slice A L c)) (z1 : w.cell? ⟨p, 1, none⟩ = some (.slice (some kad) N kc)) (y0 : w.cell? (kad.add i) = some (.pointer (some ⟨q, 0, none⟩))) (y1 : w.cell? ⟨q, 0, none⟩ = some (.slice Aq n cq)) (lq : q < w.heap.size) (hi : i < N) (hN : N ≤ 10) (hL : L ≤ 10) (hn : n ≤ 10) (q1 j n1 c1 : Nat) (A1 : Option Addr) (hj : i = j + 1) (x0 : w.cell? (kad.add j) = some (.pointer (some ⟨q1, 0, none⟩))) (x1 : w.cell? ⟨q1, 0, none⟩ = some (.slice A1 n1 c1)) (lq1 : q1 < w.heap.size) (hn1 : n1 ≤ 10) (h2 : n < 2) (h3 : 2 < n1) (P : World → Prop) (hC : Calls Tryz.prog 86 #[.pointer (some ⟨p, 0, none⟩), .int .i64 i] w (fun e w' => e = .returned (.tuple #[]) ∧ P w')) :
    Calls Tryz.prog 53 #[.pointer (some ⟨p, 0, none⟩), .int .i64 i] w (fun e w' => e = .returned (.tuple #[]) ∧ P w') := by
  have lp := World.block_lt_of_cell? _ _ z0
  dsimp only at lp
  have hiN : (i : Int) < (N : Int) := by omega
  have j1 : IntKind.i64.wrap ((i : Int) - 1) = (j : Int) := by rw [IntWalk.i64_in _ (by omega)]; omega
  have j2 : ((i : Int) - 1) = (j : Int) := by omega
  have j3 : (j : Int) < (N : Int) := by omega
  have j4 : j < N := by omega
  have j5 : (0 : Int) < (i : Int) := by omega
  have f1 : ¬ (2 : Int) ≤ (n : Int) := by omega
  have f2 : (2 : Int) < (n1 : Int) := by omega
  replace hj := hid hj
  replace hC := hid hC
  go_enter Tryz.func53, Tryz.ntmps53
  go_wp2_with fail
  refine hC.out.mono ?_
  rintro e w' ⟨rfl, hP⟩
  clear hC
  go_wp2_with fail
  go_end0
  exact ⟨rfl, hP⟩
theorem fill_C0 (p q i L N n c kc cq : Nat) (A Aq : Option Addr) (kad : Addr) (w : World) (z0 : w.cell? ⟨p, 0, none⟩ = some (.slice A L c)) (z1 : w.cell? ⟨p, 1, none⟩ = some (.slice (some kad) N kc)) (y0 : w.cell? (kad.add i) = some (.pointer (some ⟨q, 0, none⟩))) (y1 : w.cell? ⟨q, 0, none⟩ = some (.slice Aq n cq)) (lq : q < w.heap.size) (hi : i < N) (hN : N ≤ 10) (hL : L ≤ 10) (hn : n ≤ 10) (q2 k n2 c2 : Nat) (A2 : Option Addr) (hk : k = i + 1) (hkN : k < N) (u0 : w.cell? (kad.add k) = some (.pointer (some ⟨q2, 0, none⟩))) (u1 : w.cell? ⟨q2, 0, none⟩ = some (.slice A2 n2 c2)) (lq2 : q2 < w.heap.size) (hn2 : n2 ≤ 10) (h2 : n < 2) (h0 : i = 0) (h1 : i < L) (h3 : 2 < n2) (P : World → Prop) (hC : Calls Tryz.prog 87 #[.pointer (some ⟨p, 0, none⟩), .int .i64 i] w (fun e w' => e = .returned (.tuple #[]) ∧ P w')) :
    Calls Tryz.prog 53 #[.pointer (some ⟨p, 0, none⟩), .int .i64 i] w (fun e w' => e = .returned (.tuple #[]) ∧ P w') := by
  have lp := World.block_lt_of_cell? _ _ z0
  dsimp only at lp
  have hiN : (i : Int) < (N : Int) := by omega
  have k1 : IntKind.i64.wrap ((i : Int) + 1) = (k : Int) := by rw [IntWalk.i64_in _ (by omega)]; omega
  have k2 : ((i : Int) + 1) = (k : Int) := by omega
  have k3 : (k : Int) < (N : Int) := by omega
  have f1 : ¬ (2 : Int) ≤ (n : Int) := by omega
  have f0 : ¬ (0 : Int) < (i : Int) := by omega
  have f2 : (i : Int) < (L : Int) := by omega
  have f3 : (2 : Int) < (n2 : Int) := by omega
  replace hk := hid hk
  replace h0 := hid h0
  replace hC := hid hC
  go_enter Tryz.func53, Tryz.ntmps53
  go_wp2_with fail
  refine hC.out.mono ?_
  rintro e w' ⟨rfl, hP⟩
  clear hC
  go_wp2_with fail
  go_end0
  exact ⟨rfl, hP⟩
theorem fill_C1 (p q i L N n c kc cq : Nat) (A Aq : Option Addr) (kad : Addr) (w : World) (z0 : w.cell? ⟨p, 0, none⟩ = some (.slice A L c)) (z1 : w.cell? ⟨p, 1, none⟩ = some (.slice (some kad) N kc)) (y0 : w.cell? (kad.add i) = some (.pointer (some ⟨q, 0, none⟩))) (y1 : w.cell? ⟨q, 0, none⟩ = some (.slice Aq n cq)) (lq : q < w.heap.size) (hi : i < N) (hN : N ≤ 10) (hL : L ≤ 10) (hn : n ≤ 10) (q1 j n1 c1 : Nat) (A1 : Option Addr) (hj : i = j + 1) (x0 : w.cell? (kad.add j) = some (.pointer (some ⟨q1, 0, none⟩))) (x1 : w.cell? ⟨q1, 0, none⟩ = some (.slice A1 n1 c1)) (lq1 : q1 < w.heap.size) (hn1 : n1 ≤ 10) (q2 k n2 c2 : Nat) (A2 : Option Addr) (hk : k = i + 1) (hkN : k < N) (u0 : w.cell? (kad.add k) = some (.pointer (some ⟨q2, 0, none⟩))) (u1 : w.cell? ⟨q2, 0, none⟩ = some (.slice A2 n2 c2)) (lq2 : q2 < w.heap.size) (hn2 : n2 ≤ 10) (h2 : n < 2) (h4 : n1 ≤ 2) (h1 : i < L) (h3 : 2 < n2) (P : World → Prop) (hC : Calls Tryz.prog 87 #[.pointer (some ⟨p, 0, none⟩), .int .i64 i] w (fun e w' => e = .returned (.tuple #[]) ∧ P w')) :
    Calls Tryz.prog 53 #[.pointer (some ⟨p, 0, none⟩), .int .i64 i] w (fun e w' => e = .returned (.tuple #[]) ∧ P w') := by
  have lp := World.block_lt_of_cell? _ _ z0
  dsimp only at lp
  have hiN : (i : Int) < (N : Int) := by omega
  have j1 : IntKind.i64.wrap ((i : Int) - 1) = (j : Int) := by rw [IntWalk.i64_in _ (by omega)]; omega
  have j2 : ((i : Int) - 1) = (j : Int) := by omega
  have j3 : (j : Int) < (N : Int) := by omega
  have j4 : j < N := by omega
  have j5 : (0 : Int) < (i : Int) := by omega
  have k1 : IntKind.i64.wrap ((i : Int) + 1) = (k : Int) := by rw [IntWalk.i64_in _ (by omega)]; omega
  have k2 : ((i : Int) + 1) = (k : Int) := by omega
  have k3 : (k : Int) < (N : Int) := by omega
  have f1 : ¬ (2 : Int) ≤ (n : Int) := by omega
  have f4 : ¬ (2 : Int) < (n1 : Int) := by omega
  have f2 : (i : Int) < (L : Int) := by omega
  have f3 : (2 : Int) < (n2 : Int) := by omega
  replace hj := hid hj
  replace hk := hid hk
  replace hC := hid hC
  go_enter Tryz.func53, Tryz.ntmps53
  go_wp2_with fail
  refine hC.out.mono ?_
  rintro e w' ⟨rfl, hP⟩
  clear hC
  go_wp2_with fail
  go_end0
  exact ⟨rfl, hP⟩
theorem fill_D0 (p q i L N n c kc cq : Nat) (A Aq : Option Addr) (kad : Addr) (w : World) (z0 : w.cell? ⟨p, 0, none⟩ = some (.slice A L c)) (z1 : w.cell? ⟨p, 1, none⟩ = some (.slice (some kad) N kc)) (y0 : w.cell? (kad.add i) = some (.pointer (some ⟨q, 0, none⟩))) (y1 : w.cell? ⟨q, 0, none⟩ = some (.slice Aq n cq)) (lq : q < w.heap.size) (hi : i < N) (hN : N ≤ 10) (hL : L ≤ 10) (hn : n ≤ 10) (q1 j n1 c1 : Nat) (A1 : Option Addr) (hj : i = j + 1) (x0 : w.cell? (kad.add j) = some (.pointer (some ⟨q1, 0, none⟩))) (x1 : w.cell? ⟨q1, 0, none⟩ = some (.slice A1 n1 c1)) (lq1 : q1 < w.heap.size) (hn1 : n1 ≤ 10) (h2 : n < 2) (h4 : n1 ≤ 2) (h1 : ¬ i < L) (P : World → Prop) (hC : Calls Tryz.prog 88 #[.pointer (some ⟨p, 0, none⟩), .int .i64 j] w (fun e w' => e = .returned (.tuple #[]) ∧ P w')) :
    Calls Tryz.prog 53 #[.pointer (some ⟨p, 0, none⟩), .int .i64 i] w (fun e w' => e = .returned (.tuple #[]) ∧ P w') := by
  have lp := World.block_lt_of_cell? _ _ z0
  dsimp only at lp
  have hiN : (i : Int) < (N : Int) := by omega
  have j1 : IntKind.i64.wrap ((i : Int) - 1) = (j : Int) := by rw [IntWalk.i64_in _ (by omega)]; omega
  have j2 : ((i : Int) - 1) = (j : Int) := by omega
  have j3 : (j : Int) < (N : Int) := by omega
  have j4 : j < N := by omega
  have j5 : (0 : Int) < (i : Int) := by omega
  have f1 : ¬ (2 : Int) ≤ (n : Int) := by omega
  have f4 : ¬ (2 : Int) < (n1 : Int) := by omega
  have f2 : ¬ (i : Int) < (L : Int) := by omega
  replace hj := hid hj
  replace hC := hid hC
  go_enter Tryz.func53, Tryz.ntmps53
  go_wp2_with fail
  refine hC.out.mono ?_
  rintro e w' ⟨rfl, hP⟩
  clear hC
  go_wp2_with fail
  go_end0
  exact ⟨rfl, hP⟩
theorem fill_D1 (p q i L N n c kc cq : Nat) (A Aq : Option Addr) (kad : Addr) (w : World) (z0 : w.cell? ⟨p, 0, none⟩ = some (.slice A L c)) (z1 : w.cell? ⟨p, 1, none⟩ = some (.slice (some kad) N kc)) (y0 : w.cell? (kad.add i) = some (.pointer (some ⟨q, 0, none⟩))) (y1 : w.cell? ⟨q, 0, none⟩ = some (.slice Aq n cq)) (lq : q < w.heap.size) (hi : i < N) (hN : N ≤ 10) (hL : L ≤ 10) (hn : n ≤ 10) (q1 j n1 c1 : Nat) (A1 : Option Addr) (hj : i = j + 1) (x0 : w.cell? (kad.add j) = some (.pointer (some ⟨q1, 0, none⟩))) (x1 : w.cell? ⟨q1, 0, none⟩ = some (.slice A1 n1 c1)) (lq1 : q1 < w.heap.size) (hn1 : n1 ≤ 10) (q2 k n2 c2 : Nat) (A2 : Option Addr) (hk : k = i + 1) (hkN : k < N) (u0 : w.cell? (kad.add k) = some (.pointer (some ⟨q2, 0, none⟩))) (u1 : w.cell? ⟨q2, 0, none⟩ = some (.slice A2 n2 c2)) (lq2 : q2 < w.heap.size) (hn2 : n2 ≤ 10) (h2 : n < 2) (h4 : n1 ≤ 2) (h1 : i < L) (h3 : n2 ≤ 2) (P : World → Prop) (hC : Calls Tryz.prog 88 #[.pointer (some ⟨p, 0, none⟩), .int .i64 j] w (fun e w' => e = .returned (.tuple #[]) ∧ P w')) :
    Calls Tryz.prog 53 #[.pointer (some ⟨p, 0, none⟩), .int .i64 i] w (fun e w' => e = .returned (.tuple #[]) ∧ P w') := by
  have lp := World.block_lt_of_cell? _ _ z0
  dsimp only at lp
  have hiN : (i : Int) < (N : Int) := by omega
  have j1 : IntKind.i64.wrap ((i : Int) - 1) = (j : Int) := by rw [IntWalk.i64_in _ (by omega)]; omega
  have j2 : ((i : Int) - 1) = (j : Int) := by omega
  have j3 : (j : Int) < (N : Int) := by omega
  have j4 : j < N := by omega
  have j5 : (0 : Int) < (i : Int) := by omega
  have k1 : IntKind.i64.wrap ((i : Int) + 1) = (k : Int) := by rw [IntWalk.i64_in _ (by omega)]; omega
  have k2 : ((i : Int) + 1) = (k : Int) := by omega
  have k3 : (k : Int) < (N : Int) := by omega
  have f1 : ¬ (2 : Int) ≤ (n : Int) := by omega
  have f4 : ¬ (2 : Int) < (n1 : Int) := by omega
  have f2 : (i : Int) < (L : Int) := by omega
  have f3 : ¬ (2 : Int) < (n2 : Int) := by omega
  replace hj := hid hj
  replace hk := hid hk
  replace hC := hid hC
  go_enter Tryz.func53, Tryz.ntmps53
  go_wp2_with fail
  refine hC.out.mono ?_
  rintro e w' ⟨rfl, hP⟩
  clear hC
  go_wp2_with fail
  go_end0
  exact ⟨rfl, hP⟩
theorem fill_E (p q i L N n c kc cq : Nat) (A Aq : Option Addr) (kad : Addr) (w : World) (z0 : w.cell? ⟨p, 0, none⟩ = some (.slice A L c)) (z1 : w.cell? ⟨p, 1, none⟩ = some (.slice (some kad) N kc)) (y0 : w.cell? (kad.add i) = some (.pointer (some ⟨q, 0, none⟩))) (y1 : w.cell? ⟨q, 0, none⟩ = some (.slice Aq n cq)) (lq : q < w.heap.size) (hi : i < N) (hN : N ≤ 10) (hL : L ≤ 10) (hn : n ≤ 10) (q2 k n2 c2 : Nat) (A2 : Option Addr) (hk : k = i + 1) (hkN : k < N) (u0 : w.cell? (kad.add k) = some (.pointer (some ⟨q2, 0, none⟩))) (u1 : w.cell? ⟨q2, 0, none⟩ = some (.slice A2 n2 c2)) (lq2 : q2 < w.heap.size) (hn2 : n2 ≤ 10) (h2 : n < 2) (h0 : i = 0) (h1 : i < L) (h3 : n2 ≤ 2) (P : World → Prop) (hC : Calls Tryz.prog 88 #[.pointer (some ⟨p, 0, none⟩), .int .i64 i] w (fun e w' => e = .returned (.tuple #[]) ∧ P w')) :
    Calls Tryz.prog 53 #[.pointer (some ⟨p, 0, none⟩), .int .i64 i] w (fun e w' => e = .returned (.tuple #[]) ∧ P w') := by
  have lp := World.block_lt_of_cell? _ _ z0
  dsimp only at lp
  have hiN : (i : Int) < (N : Int) := by omega
  have k1 : IntKind.i64.wrap ((i : Int) + 1) = (k : Int) := by rw [IntWalk.i64_in _ (by omega)]; omega
  have k2 : ((i : Int) + 1) = (k : Int) := by omega
  have k3 : (k : Int) < (N : Int) := by omega
  have f1 : ¬ (2 : Int) ≤ (n : Int) := by omega
  have f0 : ¬ (0 : Int) < (i : Int) := by omega
  have f2 : (i : Int) < (L : Int) := by omega
  have f3 : ¬ (2 : Int) < (n2 : Int) := by omega
  replace hk := hid hk
  replace h0 := hid h0
  replace hC := hid hC
  go_enter Tryz.func53, Tryz.ntmps53
  go_wp2_with fail
  refine hC.out.mono ?_
  rintro e w' ⟨rfl, hP⟩
  clear hC
  go_wp2_with fail
  go_end0
  exact ⟨rfl, hP⟩
theorem fill_any (h p i : Nat) (l : List Te) (ks : List BT) (f : Nat → Nat) (w : World) (hT : TN w (h + 1) p (.nd l ks) f) (hn : ∀ a, f a ≤ 1) (hN : Near h l ks i) (hl4 : l.length ≤ 4) :
    Calls Tryz.prog 53 #[.pointer (some ⟨p, 0, none⟩), .int .i64 i] w fun e w' => e = .returned (.tuple #[]) ∧ Turned w w' (h + 1) p f (fillT l ks i) := by
  have hkl := hN.len
  have hle := hN.le
  have n1 := hN.n1
  have hi3 := hN.it
  obtain ⟨A, c, kad, kc, z0, z1, zc1, zc2, hk⟩ := kid_cells hT (by omega)
  obtain ⟨q, Aq, cq, y0, y1, lq⟩ := hk i (by omega)
  unfold fillT
  by_cases h2 : 2 ≤ (kth ks i).l.length
  · rw [if_pos h2]
    refine (fill_A p q i l.length ks.length _ c kc cq A Aq kad w z0 z1 y0 y1 lq (by omega) (by omega) (by omega) (by omega) h2).mono ?_
    rintro e w' ⟨rfl, rfl⟩
    exact ⟨rfl, f, hT, hn, fun _ _ => Nat.le_refl _, FR.of_ext (Ext.refl w)⟩
  rw [if_neg h2]
  rcases Nat.eq_zero_or_pos i with h0 | h0
  · rw [if_neg (show ¬ (0 < i ∧ 2 < (kth ks (i - 1)).l.length) from fun hh => by omega)]
    have hr := hN.rest (i + 1) (by omega) (by omega)
    obtain ⟨q2, A2, c2, u0, u1, lq2⟩ := hk (i + 1) (by omega)
    by_cases h3 : 2 < (kth ks (i + 1)).l.length
    · rw [if_pos ⟨by omega, h3⟩]
      exact fill_C0 p q i l.length ks.length _ c kc cq A Aq kad w z0 z1 y0 y1 lq (by omega) (by omega) (by omega) (by omega) q2 (i + 1) _ c2 A2 rfl (by omega) u0 u1 lq2 (by omega) (by omega) h0 (by omega) h3 _ (right_T hT hn hkl hl4 (by omega) hi3.2.2 hr.2.2 (by omega) hi3.2.1 hr.2.1)
    · rw [if_neg (fun hh => h3 hh.2), if_neg (by omega)]
      exact fill_E p q i l.length ks.length _ c kc cq A Aq kad w z0 z1 y0 y1 lq (by omega) (by omega) (by omega) (by omega) q2 (i + 1) _ c2 A2 rfl (by omega) u0 u1 lq2 (by omega) (by omega) h0 (by omega) (by omega) _ (join_T hT hn hkl hl4 (by omega) hi3.2.2 hr.2.2 hi3.2.1 hr.2.1)
  · obtain ⟨j, rfl⟩ : ∃ j, i = j + 1 := ⟨i - 1, by omega⟩
    rw [Nat.add_sub_cancel]
    obtain ⟨q1, A1, c1, x0, x1, lq1⟩ := hk j (by omega)
    have hp := hN.rest j (by omega) (by omega)
    by_cases hB : 2 < (kth ks j).l.length
    · rw [if_pos ⟨h0, hB⟩]
      exact fill_B p q (j + 1) l.length ks.length _ c kc cq A Aq kad w z0 z1 y0 y1 lq (by omega) (by omega) (by omega) (by omega) q1 j _ c1 A1 rfl x0 x1 lq1 (by omega) (by omega) hB _ (left_T hT hn hkl hl4 rfl (by omega) hp.2.2 hi3.2.2 (by omega) hp.2.1 hi3.2.1)
    · rw [if_neg (fun hh => hB hh.2), if_pos h0]
      have hJ := join_T hT hn hkl hl4 (show j < l.length by omega) hp.2.2 hi3.2.2 hp.2.1 hi3.2.1
      by_cases h1 : j + 1 < l.length
      · have hr := hN.rest (j + 1 + 1) (by omega) (by omega)
        obtain ⟨q2, A2, c2, u0, u1, lq2⟩ := hk (j + 1 + 1) (by omega)
        by_cases h3 : 2 < (kth ks (j + 1 + 1)).l.length
        · rw [if_pos ⟨h1, h3⟩]
          exact fill_C1 p q (j + 1) l.length ks.length _ c kc cq A Aq kad w z0 z1 y0 y1 lq (by omega) (by omega) (by omega) (by omega) q1 j _ c1 A1 rfl x0 x1 lq1 (by omega) q2 (j + 1 + 1) _ c2 A2 rfl (by omega) u0 u1 lq2 (by omega) (by omega) (by omega) h1 h3 _ (right_T hT hn hkl hl4 (by omega) hi3.2.2 hr.2.2 (by omega) hi3.2.1 hr.2.1)
        · rw [if_neg (fun hh => h3 hh.2)]
          exact fill_D1 p q (j + 1) l.length ks.length _ c kc cq A Aq kad w z0 z1 y0 y1 lq (by omega) (by omega) (by omega) (by omega) q1 j _ c1 A1 rfl x0 x1 lq1 (by omega) q2 (j + 1 + 1) _ c2 A2 rfl (by omega) u0 u1 lq2 (by omega) (by omega) (by omega) h1 (by omega) _ hJ
      · rw [if_neg (fun hh => h1 hh.1)]
        exact fill_D0 p q (j + 1) l.length ks.length _ c kc cq A Aq kad w z0 z1 y0 y1 lq (by omega) (by omega) (by omega) (by omega) q1 j _ c1 A1 rfl x0 x1 lq1 (by omega) (by omega) (by omega) h1 _ hJ
open Go.RowKit Go.Shelf
def okT (x : Te) : Bool := decide (x.key.size ≤ 100) && (decide (1 ≤ x.no) && decide (x.no ≤ 300))
theorem isEntry_any (x : Te) (w : World) : Calls Tryz.prog 21 #[.agg #[.string x.key, .int .i64 x.no]] w (Give (.bool (okT x)) w) := by
  unfold okT
  by_cases h1 : x.key.size ≤ 100
  · have d1 : (x.key.size : Int) ≤ 100 := by omega
    by_cases h2 : 1 ≤ x.no
    · by_cases h3 : x.no ≤ 300
      · rw [decide_eq_true h1, decide_eq_true h2, decide_eq_true h3]
        clear h1
        go_enter Tryz.func21, Tryz.ntmps21
        go_wp2
        go_ret
        exact ⟨rfl, (Ext.refl w).alloc_right _⟩
      · rw [decide_eq_true h1, decide_eq_true h2, decide_eq_false h3]
        clear h1
        go_enter Tryz.func21, Tryz.ntmps21
        go_wp2
        go_ret
        exact ⟨rfl, (Ext.refl w).alloc_right _⟩
    · rw [decide_eq_true h1, decide_eq_false h2]
      clear h1
      go_enter Tryz.func21, Tryz.ntmps21
      go_wp2
      go_ret
      exact ⟨rfl, (Ext.refl w).alloc_right _⟩
  · have d1 : ¬ (x.key.size : Int) ≤ 100 := by omega
    rw [decide_eq_false h1]
    clear h1
    go_enter Tryz.func21, Tryz.ntmps21
    go_wp2
    go_ret
    exact ⟨rfl, (Ext.refl w).alloc_right _⟩
structure TreeAt (lk : Int) (w : World) (t : Nat) (L : List Te) (h p : Nat) (T : BT) (fT : Nat → Nat) : Prop where
  ht : ∃ q, w.heap[t]? = some (.cells #[.int .i32 lk, .int .u32 q, .pointer (some ⟨p, 0, none⟩), .int .i64 L.length] 57 (0, 0))
  tn : TN w h p T fT
  nd : ∀ a, one1 t a + fT a ≤ 1
  sh : Shp h T
  l4 : T.l.length ≤ 4
  l1 : h ≠ 0 → 1 ≤ T.l.length
  fl : flat h T = L
  sr : Srt L
  ok : ∀ e ∈ L, okT e = true
  le : L.length ≤ 10000
def putEr (L : List Te) (x : Te) : Int := if okT x = true then if memT L x = true then 5 else if 1200 ≤ L.length then 3 else 0 else 1
def putLs (L : List Te) (x : Te) : List Te := if putEr L x = 0 then insT L x else L
def TreeTurned (lk : Int) (w w' : World) (t : Nat) (fT : Nat → Nat) (L : List Te) : Prop := ∃ h p T f', TreeAt lk w' t L h p T f' ∧ (∀ a, a < w.heap.size → f' a ≤ fT a) ∧ FR (fun a => one1 t a + fT a) w w'
def TreeTurnedX (X : Nat × BT) (lk : Int) (w w' : World) (t : Nat) (fT : Nat → Nat) (L : List Te) : Prop := ∃ p f', TreeAt lk w' t L X.1 p X.2 f' ∧ (∀ a, a < w.heap.size → f' a ≤ fT a) ∧ FR (fun a => one1 t a + fT a) w w'
theorem TreeTurnedX.out {X : Nat × BT} {lk : Int} {w w' : World} {t : Nat} {fT : Nat → Nat} {L : List Te} (H : TreeTurnedX X lk w w' t fT L) : TreeTurned lk w w' t fT L := by
  obtain ⟨p, f', h1, h2, h3⟩ := H
  exact ⟨X.1, p, X.2, f', h1, h2, h3⟩
def putX (h : Nat) (T : BT) (L : List Te) (x : Te) : Nat × BT := if putEr L x = 0 then if 4 < (putT h T x).l.length then (h + 1, splitT [] [T] 0 (putT h T x)) else (h, putT h T x) else (h, T)
theorem TreeAt.ext {lk : Int} {w w' : World} {t h p : Nat} {L : List Te} {T : BT} {fT : Nat → Nat} (H : TreeAt lk w t L h p T fT) (hx : Ext w w') : TreeAt lk w' t L h p T fT := by
  obtain ⟨q, hq⟩ := H.ht
  exact ⟨⟨q, (hx.block (Array.getElem?_eq_some_iff.1 hq).1).trans hq⟩, H.tn.ext hx, H.nd, H.sh, H.l4, H.l1, H.fl, H.sr, H.ok, H.le⟩
theorem TreeAt.same {lk : Int} {w w' : World} {t h p : Nat} {L : List Te} {T : BT} {fT : Nat → Nat} (H : TreeAt lk w t L h p T fT) (hx : Ext w w') : TreeTurned lk w w' t fT L := ⟨h, p, T, fT, H.ext hx, fun _ _ => Nat.le_refl _, FR.of_ext hx⟩
theorem TreeAt.sameX {lk : Int} {w w' : World} {t h p : Nat} {L : List Te} {T : BT} {fT : Nat → Nat} (H : TreeAt lk w t L h p T fT) (hx : Ext w w') : TreeTurnedX (h, T) lk w w' t fT L := ⟨p, fT, H.ext hx, fun _ _ => Nat.le_refl _, FR.of_ext hx⟩
theorem fr_set {w : World} {b j : Nat} {u : Value} : FR (one1 b) w (w.setCell ⟨b, j, none⟩ u) := ⟨rfl, rfl, rfl, by simp, fun k hk h0 => by
  have hne : b ≠ k := fun e => by rw [e, one_self] at h0; cases h0
  simp [World.setCell, Array.getElem?_modify, hne]⟩
theorem TN.setc {w : World} {h p b j : Nat} {T : BT} {f : Nat → Nat} {u : Value} (hT : TN w h p T f) (hb : f b = 0) : TN (w.setCell ⟨b, j, none⟩ u) h p T f := hT.frame fr_set (fun a ha => if_neg (fun e => by rw [e, hb] at ha; cases ha))
theorem tree_set2 {w : World} {t : Nat} {a b c d : Value} (h : w.heap[t]? = some (.cells #[a, b, c, d] 57 (0, 0))) (u : Value) : (w.setCell ⟨t, 2, none⟩ u).heap[t]? = some (.cells #[a, b, u, d] 57 (0, 0)) := by
  simp [World.setCell, Array.getElem?_modify, h]
theorem tree_set3 {w : World} {t : Nat} {a b c d : Value} (h : w.heap[t]? = some (.cells #[a, b, c, d] 57 (0, 0))) (u : Value) : (w.setCell ⟨t, 3, none⟩ u).heap[t]? = some (.cells #[a, b, c, u] 57 (0, 0)) := by
  simp [World.setCell, Array.getElem?_modify, h]
theorem tputX_any (lk : Int) (t : Nat) (L : List Te) (h p : Nat) (T : BT) (fT : Nat → Nat) (x : Te) (w : World) (H : TreeAt lk w t L h p T fT) : Calls Tryz.prog 20 #[.pointer (some ⟨t, 0, none⟩), .agg #[.string x.key, .int .i64 x.no]] w fun e w' => e = .returned (.int .i64 (putEr L x)) ∧ TreeTurnedX (putX h T L x) lk w w' t fT (putLs L x) := by
  have hsame := hid (fun w' (hx : Ext w w') => H.sameX hx)
  obtain ⟨⟨q, ht0⟩, tn, nd, sh, l4, l1, fl, sr, ok, le⟩ := H
  have hHas := hid (fun w' (hx : Ext w w') => has_any h p T fT w' x (tn.ext hx) sh (by rw [fl]; exact sr) (by omega))
  rw [fl] at hHas
  have ha := heap_alloc_new w (.cells #[.string x.key, .int .i64 x.no] 65)
  have hx1 := hid ((Ext.refl w).alloc_right (.cells #[.string x.key, .int .i64 x.no] 65))
  have z0 : (w.alloc (.cells #[.string x.key, .int .i64 x.no] 65)).cell? ⟨w.heap.size, 0, none⟩ = some (.string x.key) := by rw [Lib.cell_of_heap ha]; rfl
  have z1 : (w.alloc (.cells #[.string x.key, .int .i64 x.no] 65)).cell? ⟨w.heap.size, 1, none⟩ = some (.int .i64 x.no) := by rw [Lib.cell_of_heap ha]; rfl
  have c2 : w.cell? ⟨t, 2, none⟩ = some (.pointer (some ⟨p, 0, none⟩)) := by rw [Lib.cell_of_heap ht0]; rfl
  have c3 : w.cell? ⟨t, 3, none⟩ = some (.int .i64 L.length) := by rw [Lib.cell_of_heap ht0]; rfl
  have zt := hx1.out.cell c2
  have lt0 := World.block_lt_of_cell? _ _ zt
  dsimp only at lt0
  have hft0 : Hid (fT t = 0) := by have := nd t; rw [one_self] at this; unfold Hid; omega
  have hfb0 : Hid (fT w.heap.size = 0) := tn.bound _ (Nat.le_refl _)
  have hE : Hid (putEr L x = if okT x = true then if memT L x = true then 5 else if 1200 ≤ L.length then 3 else 0 else 1) := rfl
  have hLs : Hid (putLs L x = if putEr L x = 0 then insT L x else L) := rfl
  obtain ⟨X, hX⟩ : ∃ X, Hid (X = putX h T L x) := ⟨_, rfl⟩
  rw [← hX.out]
  have hXn : Hid (putEr L x ≠ 0 → X = (h, T)) := fun h1 => hX.out.trans (if_neg h1)
  have hXy : Hid (putEr L x = 0 → X = if 4 < (putT h T x).l.length then (h + 1, splitT [] [T] 0 (putT h T x)) else (h, putT h T x)) := fun h1 => hX.out.trans (if_pos h1)
  clear hX
  generalize putEr L x = er at *
  generalize putLs L x = ls at *
  replace ht0 := hid ht0
  clear ha c2
  go_enter Tryz.func20, Tryz.ntmps20
  go_upto_region 1 with fail
  obtain ⟨b, hb0⟩ : ∃ b, b = w.heap.size := ⟨_, rfl⟩
  rw [← hb0] at z0 z1 hfb0
  simp only [← hb0]
  replace hb0 := hid hb0
  generalize w.alloc (.cells #[.string x.key, .int .i64 x.no] 65) = w1 at *
  go_wp2_with fail
  refine (isEntry_any x w1).mono ?_
  rintro e' w2 ⟨rfl, hx2⟩
  replace z0 := hx2.cell z0
  replace z1 := hx2.cell z1
  replace zt := hx2.cell zt
  replace hx1 := hid (hx1.out.trans hx2)
  have lt2 := World.block_lt_of_cell? _ _ zt
  dsimp only at lt2
  clear hx2
  cases hok : okT x with
  | false =>
    have hE1 : Hid (er = 1) := by unfold Hid; rw [hE.out, hok]; rfl
    have hL1 : Hid (ls = L) := hLs.out.trans (if_neg (by rw [hE1.out]; decide))
    have hX1 := hid (hXn.out (by rw [hE1.out]; decide))
    clear hE hLs hok
    go_wp2
    go_ret
    exact ⟨ret_int hE1.out.symm, by rw [hL1.out, hX1.out]; exact hsame.out _ hx1.out⟩
  | true =>
    go_upto_region 3 with fail
    have I0 : (fun w' : World => w'.cell? ⟨t, 2, none⟩ = some (.pointer (some ⟨p, 0, none⟩)) ∧ w'.cell? ⟨b, 0, none⟩ = some (.string x.key) ∧ w'.cell? ⟨b, 1, none⟩ = some (.int .i64 x.no)) w2.drew := ⟨zt, z0, z1⟩
    refine region_J (fun w' : World => w'.cell? ⟨t, 2, none⟩ = some (.pointer (some ⟨p, 0, none⟩)) ∧ w'.cell? ⟨b, 0, none⟩ = some (.string x.key) ∧ w'.cell? ⟨b, 1, none⟩ = some (.int .i64 x.no)) 7 (by kernel_rfl) ?_
    replace hx1 := hid (hx1.out.drew_right)
    clear zt z0 z1
    generalize w2.drew = w2 at *
    refine JO 0 (v := ?vc0) I0 ?yc0 ?rc0
    case yc0 => (intro w h; obtain ⟨_, _, _⟩ := h; go_simp; with_reducible rfl)
    simp only [Act.put, lyA, lyB, lyC, lyD, lyE, lyF]
    refine JO 1 (v := ?vc1) I0 ?yc1 ?rc1
    case yc1 => (intro w h; obtain ⟨_, _, _⟩ := h; go_simp; with_reducible rfl)
    simp only [Act.put, lyA, lyB, lyC, lyD, lyE, lyF]
    refine JO 2 (v := ?vc2) I0 ?yc2 ?rc2
    case yc2 => (intro w h; obtain ⟨_, _, _⟩ := h; go_simp; with_reducible rfl)
    simp only [Act.put, lyA, lyB, lyC, lyD, lyE, lyF]
    refine JO 3 (v := ?vc3) I0 ?yc3 ?rc3
    case yc3 => (intro w h; obtain ⟨_, _, _⟩ := h; go_simp; with_reducible rfl)
    simp only [Act.put, lyA, lyB, lyC, lyD, lyE, lyF]
    refine JO 4 (v := ?vc4) I0 ?yc4 ?rc4
    case yc4 => (intro w h; obtain ⟨_, _, _⟩ := h; go_simp; with_reducible rfl)
    simp only [Act.put, lyA, lyB, lyC, lyD, lyE, lyF]
    refine J_one 5 rfl (by kernel_rfl) (fun K hK => ?_)
    go_simp
    refine (hHas.out w2 hx1.out).mono ?_
    rintro e' w3 ⟨rfl, hx3⟩
    have I3 : (fun w' : World => w'.cell? ⟨t, 2, none⟩ = some (.pointer (some ⟨p, 0, none⟩)) ∧ w'.cell? ⟨b, 0, none⟩ = some (.string x.key) ∧ w'.cell? ⟨b, 1, none⟩ = some (.int .i64 x.no)) w3 := ⟨hx3.cell I0.1, hx3.cell I0.2.1, hx3.cell I0.2.2⟩
    replace hx1 := hid (hx1.out.trans hx3)
    clear hx3 I0
    refine hK _ _ ⟨fun _ => I3, ?_⟩
    clear hK K
    try simp only [Act.put, lyA, lyB, lyC, lyD, lyE, lyF]
    refine J_one 6 rfl (by kernel_rfl) (fun K hK => ?_)
    go_simp
    refine hK _ _ ⟨fun _ => I3, ?_⟩
    clear hK K
    try simp only [Act.put, lyD, lyE, lyF]
    refine J_done (by kernel_rfl) (OnlyOn.normal ?_)
    cases hmm : memT L x with
    | true =>
      have hE1 : Hid (er = 5) := by unfold Hid; rw [hE.out, hok, hmm]; rfl
      have hL1 : Hid (ls = L) := hLs.out.trans (if_neg (by rw [hE1.out]; decide))
      have hX1 := hid (hXn.out (by rw [hE1.out]; decide))
      clear hE hLs hok hmm I3
      go_wp2
      go_ret
      exact ⟨ret_int hE1.out.symm, by rw [hL1.out, hX1.out]; exact hsame.out _ hx1.out⟩
    | false =>
      have c3' := hx1.out.cell c3
      have lt3 := World.block_lt_of_cell? _ _ I3.1
      dsimp only at lt3
      by_cases hfull : 1200 ≤ L.length
      · have hE1 : Hid (er = 3) := by unfold Hid; rw [hE.out, hok, hmm, if_pos rfl, if_neg (by decide), if_pos hfull]
        have hL1 : Hid (ls = L) := hLs.out.trans (if_neg (by rw [hE1.out]; decide))
        have hX1 := hid (hXn.out (by rw [hE1.out]; decide))
        have d9 : (1200 : Int) ≤ (L.length : Int) := by omega
        clear hE hLs hok hmm I3 hfull
        go_wp2
        go_ret
        exact ⟨ret_int hE1.out.symm, by rw [hL1.out, hX1.out]; exact hsame.out _ hx1.out⟩
      · have hE1 : Hid (er = 0) := by unfold Hid; rw [hE.out, hok, hmm, if_pos rfl, if_neg (by decide), if_neg hfull]
        have hL1 : Hid (ls = insT L x) := hLs.out.trans (if_pos hE1.out)
        have d9 : ¬ (1200 : Int) ≤ (L.length : Int) := by omega
        have hxL : x ∉ L := memT_false.1 hmm
        have hPut := hid (fun w' (hx : Ext w w') => put_any h p T fT w' x (tn.ext hx) (fun a => by have := nd a; omega) sh (by rw [fl]; exact sr) (by rw [fl]; exact hxL) l4)
        have hpo := putT_ok h T x sh (by rw [fl]; exact sr) (by rw [fl]; exact hxL)
        rw [fl] at hpo
        have hX1 := hid (hXy.out hE1.out)
        clear hXy hXn
        generalize putT h T x = T' at *
        obtain ⟨lk', kk⟩ := T'
        replace hX1 : Hid (X = if 4 < lk'.length then (h + 1, splitT [] [T] 0 (.nd lk' kk)) else (h, .nd lk' kk)) := hX1
        have hpo' := hid hpo
        have hT4 : Hid (T.l.length ≤ 4) := l4
        have hsh := hid sh
        have hok2 : Hid (∀ e ∈ insT L x, okT e = true) := fun e he => by
          rcases mem_ins.1 he with rfl | he
          · exact hok
          · exact ok e he
        have hsr2 := hid (srt_ins sr hxL)
        have hle2 : Hid ((insT L x).length ≤ 10000) := by unfold Hid; rw [len_ins]; omega
        have hln2 := hid (len_ins L x)
        clear hE hLs hok hmm hfull hsame hHas hpo sh l4 fl sr ok tn hxL
        go_upto_region 7 with fail
        have I0 : (fun w' : World => w'.cell? ⟨t, 2, none⟩ = some (.pointer (some ⟨p, 0, none⟩)) ∧ w'.cell? ⟨b, 0, none⟩ = some (.string x.key) ∧ w'.cell? ⟨b, 1, none⟩ = some (.int .i64 x.no)) w3.drew := I3
        refine region_J (fun w' : World => w'.cell? ⟨t, 2, none⟩ = some (.pointer (some ⟨p, 0, none⟩)) ∧ w'.cell? ⟨b, 0, none⟩ = some (.string x.key) ∧ w'.cell? ⟨b, 1, none⟩ = some (.int .i64 x.no)) 6 (by kernel_rfl) ?_
        replace hx1 := hid (hx1.out.drew_right)
        clear I3
        generalize w3.drew = w3 at *
        refine JO 0 (v := ?vd0) I0 ?yd0 ?rd0
        case yd0 => (intro w h; obtain ⟨_, _, _⟩ := h; go_simp; with_reducible rfl)
        simp only [Act.put, lyA, lyB, lyC, lyD, lyE, lyF]
        refine JO 1 (v := ?vd1) I0 ?yd1 ?rd1
        case yd1 => (intro w h; obtain ⟨_, _, _⟩ := h; go_simp; with_reducible rfl)
        simp only [Act.put, lyA, lyB, lyC, lyD, lyE, lyF]
        refine JO 2 (v := ?vd2) I0 ?yd2 ?rd2
        case yd2 => (intro w h; obtain ⟨_, _, _⟩ := h; go_simp; with_reducible rfl)
        simp only [Act.put, lyA, lyB, lyC, lyD, lyE, lyF]
        refine JO 3 (v := ?vd3) I0 ?yd3 ?rd3
        case yd3 => (intro w h; obtain ⟨_, _, _⟩ := h; go_simp; with_reducible rfl)
        simp only [Act.put, lyA, lyB, lyC, lyD, lyE, lyF]
        refine JO 4 (v := ?vd4) I0 ?yd4 ?rd4
        case yd4 => (intro w h; obtain ⟨_, _, _⟩ := h; go_simp; with_reducible rfl)
        simp only [Act.put, lyA, lyB, lyC, lyD, lyE, lyF]
        refine J_one 5 rfl (by kernel_rfl) (fun K hK => ?_)
        go_simp
        refine (hPut.out w3 hx1.out).mono ?_
        rintro e' w4 ⟨rfl, ht⟩
        have hft := ht
        obtain ⟨f4, tn4, nd4, le4, fr4⟩ := ht
        have hbc : ∀ (j : Addr) (u : Value), fT j.block = 0 → w3.cell? j = some u → w4.cell? j = some u := fun j u hj hu => by
          rw [World.cell?_of_block (fr4.2.2.2.2 j.block (World.block_lt_of_cell? _ _ hu) hj)]
          exact hu
        have I4 : (fun w' : World => w'.cell? ⟨t, 2, none⟩ = some (.pointer (some ⟨p, 0, none⟩)) ∧ w'.cell? ⟨b, 0, none⟩ = some (.string x.key) ∧ w'.cell? ⟨b, 1, none⟩ = some (.int .i64 x.no)) w4 := ⟨hbc _ _ hft0.out I0.1, hbc _ _ hfb0.out I0.2.1, hbc _ _ hfb0.out I0.2.2⟩
        have ht4 : Hid (w4.heap[t]? = some (.cells #[.int .i32 lk, .int .u32 q, .pointer (some ⟨p, 0, none⟩), .int .i64 L.length] 57 (0, 0))) := by
          have h0 := (hx1.out.block (Array.getElem?_eq_some_iff.1 ht0.out).1).trans ht0.out
          exact (fr4.2.2.2.2 t (Array.getElem?_eq_some_iff.1 h0).1 hft0.out).trans h0
        replace tn4 := hid tn4
        replace nd4 := hid nd4
        have le4' : Hid (∀ a, a < w.heap.size → f4 a ≤ fT a) := fun a ha => le4 a (Nat.lt_of_lt_of_le ha hx1.out.size)
        have fr4' : Hid (FR fT w w4) := (FR.of_ext hx1.out).trans fr4 (fun _ _ h => h)
        clear hft hbc fr4 le4 I0 hPut hx1
        refine hK _ _ ⟨fun _ => I4, ?_⟩
        clear hK K
        try simp only [Act.put, lyA, lyB, lyC, lyD, lyE, lyF]
        refine J_done (by kernel_rfl) (OnlyOn.normal ?_)
        obtain ⟨lv, kv, ps, g, u1, u2, u3, u5, u4⟩ := tn4.out.opn
        obtain ⟨A, c, rfl, hr⟩ := own_rd u2
        have hmr := Rd.max hr
        have zr := node_c0 u1
        have zt := I4.1
        have zn : w4.cell? ⟨t, 3, none⟩ = some (.int .i64 L.length) := by rw [Lib.cell_of_heap ht4.out]; rfl
        have zf := Lib.frozen_of_heap ht4.out 3
        have zf2 := Lib.frozen_of_heap ht4.out 2
        have lt4 := (Array.getElem?_eq_some_iff.1 ht4.out).1
        have lp4 := (Array.getElem?_eq_some_iff.1 u1).1
        have hw1 : IntKind.i64.wrap ((L.length : Int) + 1) = ((insT L x).length : Int) := by rw [IntWalk.i64_in _ (by omega), hln2.out]; omega
        have hf4t : Hid (f4 t = 0) := by have := le4'.out t (Array.getElem?_eq_some_iff.1 ht0.out).1; have := hft0.out; unfold Hid; omega
        have hlk := hid (show T.l.length ≤ lk'.length ∧ lk'.length ≤ T.l.length + 1 from hpo'.out.2.2)
        replace u1 := hid u1
        replace u2 := hid u2
        replace u3 := hid u3
        replace u4 := hid u4
        replace u5 := hid u5
        clear hr I4
        by_cases h5 : 4 < lk'.length
        · have d5 : (4 : Int) < (lk'.length : Int) := by omega
          replace hX1 := hid (hX1.out.trans (if_pos h5))
          have hl5 : Hid (lk'.length = 5) := by have := hlk.out; have := hT4.out; unfold Hid; omega
          go_upto_region 10 with fail
          obtain ⟨kb, hkb0⟩ : ∃ u, u = w4.heap.size := ⟨_, rfl⟩
          simp only [← hkb0]
          generalize hr0 : kb + 1 = r at *
          have hpt : t ≠ p := fun e => by have := hf4t.out; rw [u4.out t, ← e, one_self] at this; omega
          have h5s : (w4.setCell ⟨t, 2, none⟩ (.pointer (some ⟨r, 0, none⟩))).heap.size = kb := by rw [hkb0]; simp
          have ht5 := tree_set2 ht4.out (.pointer (some ⟨r, 0, none⟩))
          have tn5 := tn4.out.setc (j := 2) (u := .pointer (some ⟨r, 0, none⟩)) hf4t.out
          have v1 := heap_set_other u1.out hpt 2 (.pointer (some ⟨r, 0, none⟩))
          have v2 := own_set u2.out (fun e => by have := hf4t.out; rw [u4.out t, ob_some e] at this; omega) 2 (.pointer (some ⟨r, 0, none⟩))
          have v3 := own_set u3.out (fun e => by have := hf4t.out; rw [u4.out t, ob_some e] at this; omega) 2 (.pointer (some ⟨r, 0, none⟩))
          have v5 := u5.out.frame (fr_set (b := t) (j := 2) (u := .pointer (some ⟨r, 0, none⟩))) (fun a ha => if_neg (fun e => by have := hf4t.out; rw [u4.out t] at this; rw [e] at ha; omega))
          have fr5 : FR (fun a => one1 t a + fT a) w (w4.setCell ⟨t, 2, none⟩ (.pointer (some ⟨r, 0, none⟩))) := (fr4'.out.mono (fun k _ h0 => by show fT k = 0; omega)).trans (fr_set (b := t)) (fun k _ h0 => by show one1 t k = 0; omega)
          have hsz4 : w.heap.size ≤ kb := by have := fr4'.out.2.2.2.1; omega
          clear tn4 u1 u2 u3 u5 ht4 zt zn zf zf2 zr lt4 lp4 fr4'
          generalize w4.setCell ⟨t, 2, none⟩ (.pointer (some ⟨r, 0, none⟩)) = w5 at *
          have hxk := (Ext.refl w5).alloc_right (.cells #[.pointer (some ⟨p, 0, none⟩)] 44)
          have hkb := heap_alloc_new w5 (.cells #[.pointer (some ⟨p, 0, none⟩)] 44)
          have hxr := (Ext.refl (w5.alloc (.cells #[.pointer (some ⟨p, 0, none⟩)] 44))).alloc_right (.cells #[.slice none 0 0, .slice (some ⟨kb, 0, none⟩) 1 1] 48)
          have hrb := heap_alloc_new (w5.alloc (.cells #[.pointer (some ⟨p, 0, none⟩)] 44)) (.cells #[.slice none 0 0, .slice (some ⟨kb, 0, none⟩) 1 1] 48)
          rw [World.size_alloc, h5s, hr0] at hrb
          rw [h5s] at hkb
          have hx57 := hxk.trans hxr
          have ht7 := (hx57.block (Array.getElem?_eq_some_iff.1 ht5).1).trans ht5
          have hkb7 := (hxr.block (Array.getElem?_eq_some_iff.1 hkb).1).trans hkb
          replace v1 := (hx57.block (Array.getElem?_eq_some_iff.1 v1).1).trans v1
          replace v2 := hx57.own v2
          replace v3 := hx57.own v3
          have b5 : ∀ a, kb ≤ a → f4 a = 0 := fun a ha => tn5.bound a (by omega)
          replace v5 := v5.frame (FR.of_ext (f := fun _ => 0) hx57) (fun _ _ => rfl)
          replace fr5 := fr5.trans (FR.of_ext (f := fun _ => 0) hx57) (fun _ _ _ => rfl)
          clear hxk hxr hkb ht5
          have hokv : ((w5.alloc (.cells #[.pointer (some ⟨p, 0, none⟩)] 44)).alloc (.cells #[.slice none 0 0, .slice (some ⟨kb, 0, none⟩) 1 1] 48)).ownsRow 0 44 1 (.slice (some ⟨kb, 0, none⟩) 1 1) 1 (ptrs [p]) := ⟨rfl, .inr ⟨kb, 1, _, rfl, Nat.zero_le _, hkb7, Nat.le_refl _, by decide, rfl, rfl⟩⟩
          have h7s : ((w5.alloc (.cells #[.pointer (some ⟨p, 0, none⟩)] 44)).alloc (.cells #[.slice none 0 0, .slice (some ⟨kb, 0, none⟩) 1 1] 48)).heap.size = kb + 2 := by simp [h5s]
          generalize (w5.alloc (.cells #[.pointer (some ⟨p, 0, none⟩)] 44)).alloc (.cells #[.slice none 0 0, .slice (some ⟨kb, 0, none⟩) 1 1] 48) = w7 at *
          have zt7 : w7.cell? ⟨t, 2, none⟩ = some (.pointer (some ⟨r, 0, none⟩)) := by rw [Lib.cell_of_heap ht7]; rfl
          have lt7 := (Array.getElem?_eq_some_iff.1 ht7).1
          have lr7 := (Array.getElem?_eq_some_iff.1 hrb).1
          have hnil : ∀ a, ob (.slice none 0 0) a = 0 := fun a => if_neg (fun e => by cases e)
          have hobk : ∀ a, ob (.slice (some ⟨kb, 0, none⟩) 1 1) a = one1 kb a := fun a => by
            unfold ob one1
            by_cases e : a = kb
            · rw [if_pos e, if_pos (by rw [e]; rfl)]
            · rw [if_neg e, if_neg]
              intro e2
              have h9 : kb = a := by simpa [Value.ownBlock] using e2
              exact e h9.symm
          have hsum : Hid (∀ a, one1 r a + ob (.slice none 0 0) a + ob (.slice (some ⟨kb, 0, none⟩) 1 1) a + (0 + (one1 p a + ob (.slice A lk'.length c) a + ob kv a + g a) + 0) ≤ 1) := fun a => by
            have h4 := nd4.out a
            have h40 := u4.out a
            rw [hnil a, hobk a]
            by_cases ha : a < kb
            · rw [show one1 r a = 0 from if_neg (by omega), show one1 kb a = 0 from if_neg (by omega)]; omega
            · have h6 := b5 a (by omega)
              have : one1 r a + one1 kb a ≤ 1 := by unfold one1; split <;> split <;> omega
              omega
          have hSp := hid (split_any (fun a => one1 r a + ob (.slice none 0 0) a + ob (.slice (some ⟨kb, 0, none⟩) 1 1) a + one1 p a + ob (.slice A lk'.length c) a + ob kv a) r p 0 [] lk' [p] ps _ _ _ _ w7 hrb v1 (World.ownsRow_nil _ _ _ _) hokv (by rw [hl5.out] at v2 ⊢; exact v2) v3 rfl (Nat.le_refl _) (by decide) (by show 1 ≤ 10; decide) hl5.out (by
            have h1 := v5.len
            have h2 := hpo'.out.1
            cases h with
            | zero => left; rw [h1]; have : kk = [] := h2; rw [this]; rfl
            | succ h => right; rw [h1]; have : kk.length = lk'.length + 1 := h2.1; have := hl5.out; omega) (fun a => by have := hsum.out a; omega) (fun _ => rfl))
          replace hnil := hid hnil
          replace hobk := hid hobk
          replace v5 := hid v5
          replace ht7 := hid ht7
          replace fr5 := hid fr5
          have b5' := hid b5
          clear b5 tn5 v1 v2 v3 hrb hkb7 hokv hx57
          go_wp2_with fail
          refine hSp.out.mono ?_
          rintro e' w8 ⟨rfl, r2, lv', kv', lq', kq', lr, kr, tri⟩
          have tri' := hid tri
          have hsz7 : t < w.heap.size := (Array.getElem?_eq_some_iff.1 ht0.out).1
          have hT8 := split_done (w := w7) (w5 := w7) (w6 := w8) (h := h) (p := r) (q := p) (r := r2) (i := 0) (l := []) (lk := lk') (ks := [T]) (kk := kk) (ps := [p]) (pk := ps) (lv := .slice none 0 0) (kv := .slice (some ⟨kb, 0, none⟩) 1 1) (lq := .slice A lk'.length c) (kq := kv) (f := fun a => one1 r a + one1 kb a + f4 a) (g0 := fun _ => 0) (gk := g) (g2 := fun _ => 0) (by show 0 < 1; decide) hl5.out (FR.of_ext (Ext.refl w7)) rfl (fun a _ => by
            have h1 := u4.out a
            rw [hnil.out a, hobk.out a]
            show one1 r a + 0 + one1 kb a + (0 + (one1 p a + ob (.slice A lk'.length c) a + ob kv a + g a) + 0) ≤ one1 r a + one1 kb a + f4 a
            omega) hsum.out (show Ks _ [] [] _ from fun _ => rfl) (show Ks _ [] [] _ from fun _ => rfl) v5.out (fun _ => rfl) tri (Nat.le_refl _)
          clear tri hSp
          obtain ⟨f8, tn8, nd8, le8, fr8⟩ := hT8
          have hT4' : Hid (T.l.length = 4) := by have := hlk.out; have := hT4.out; have := hl5.out; unfold Hid; omega
          have hsp := splitT_ok (h := h) (l := []) (ks := [T]) (i := 0) (K := .nd lk' kk) ⟨rfl, fun k hk => by
            rcases List.mem_cons.1 hk with rfl | hk
            · exact ⟨by rw [hT4'.out]; decide, by rw [hT4'.out]; decide, hsh.out⟩
            · cases hk⟩ (Nat.le_refl _) hpo'.out.1 hl5.out
          have hlt1 : (splitT [] [T] 0 (.nd lk' kk)).l.length = 1 := rfl
          generalize splitT [] [T] 0 (.nd lk' kk) = T8 at *
          have hfl8 : flat (h + 1) T8 = insT L x := by
            rw [hsp.2, hpo'.out.2.1]
            simp [wvp, tlW]
          have hrt : t ≠ r := by omega
          have hkt : t ≠ kb := by omega
          have hF7 : one1 r t + one1 kb t + f4 t = 0 := by rw [show one1 r t = 0 from if_neg hrt, show one1 kb t = 0 from if_neg hkt, hf4t.out]
          have hf8t : Hid (f8 t = 0) := by have h1 : f8 t ≤ one1 r t + one1 kb t + f4 t := le8 t lt7; unfold Hid; omega
          have ht8 := (fr8.2.2.2.2 t lt7 hF7).trans ht7.out
          have lt8 := (Array.getElem?_eq_some_iff.1 ht8).1
          have zn8 : w8.cell? ⟨t, 3, none⟩ = some (.int .i64 L.length) := by rw [Lib.cell_of_heap ht8]; rfl
          have zf8 := Lib.frozen_of_heap ht8 3
          have hfin : Hid (TreeTurnedX X lk w (w8.setCell ⟨t, 3, none⟩ (.int .i64 (insT L x).length)) t fT ls) := by
            rw [hL1.out, hX1.out]
            refine ⟨r, f8, ⟨⟨q, tree_set3 ht8 _⟩, tn8.setc hf8t.out, fun a => ?_, hsp.1, by rw [hlt1]; decide, fun _ => by rw [hlt1]; exact Nat.le_refl _, hfl8, hsr2.out, hok2.out, hle2.out⟩, fun a ha => ?_, ?_⟩
            · by_cases e : a = t
              · rw [e, hf8t.out, one_self]; exact Nat.le_refl _
              · rw [show one1 t a = 0 from if_neg e]; have := nd8 a; omega
            · have h1 := le8 a (by omega)
              have h2 := le4'.out a ha
              have h3 : one1 r a + one1 kb a + f4 a = f4 a := by rw [show one1 r a = 0 from if_neg (by omega), show one1 kb a = 0 from if_neg (by omega)]; omega
              have h4 : f8 a ≤ one1 r a + one1 kb a + f4 a := h1
              omega
            · refine (fr5.out.trans fr8 (fun k hk h0 => ?_)).trans (fr_set (b := t)) (fun k _ h0 => ?_)
              · have h2 := le4'.out k hk
                have h0' : one1 t k + fT k = 0 := h0
                show one1 r k + one1 kb k + f4 k = 0
                rw [show one1 r k = 0 from if_neg (by omega), show one1 kb k = 0 from if_neg (by omega)]; omega
              · have h0' : one1 t k + fT k = 0 := h0
                omega
          clear fr8 le8 nd8 tn8 hsp hfl8 hlt1 hsum hrt hkt hF7 ht8 hsz4 b5' v5
          go_wp2_with fail
          go_ret
          exact ⟨ret_int hE1.out.symm, hfin.out⟩
        · have d5 : ¬ (4 : Int) < (lk'.length : Int) := by omega
          replace hX1 := hid (hX1.out.trans (if_neg h5))
          have hfin : Hid (TreeTurnedX X lk w (w4.setCell ⟨t, 3, none⟩ (.int .i64 (insT L x).length)) t fT ls) := by
            rw [hL1.out, hX1.out]
            refine ⟨p, f4, ⟨⟨q, tree_set3 ht4.out _⟩, tn4.out.setc hf4t.out, fun a => ?_, hpo'.out.1, by show lk'.length ≤ 4; omega, fun h0 => ?_, hpo'.out.2.1, hsr2.out, hok2.out, hle2.out⟩, le4'.out, ?_⟩
            · by_cases e : a = t
              · rw [e, hf4t.out, one_self]; exact Nat.le_refl _
              · rw [show one1 t a = 0 from if_neg e]; have := nd4.out a; omega
            · show 1 ≤ lk'.length
              have := hlk.out.1
              have := l1 h0
              omega
            · exact (fr4'.out.mono (fun k _ h0 => by show fT k = 0; omega)).trans (fr_set (b := t)) (fun k _ h0 => by show one1 t k = 0; omega)
          go_wp2_with fail
          go_ret
          exact ⟨ret_int hE1.out.symm, hfin.out⟩
theorem tput_any (lk : Int) (t : Nat) (L : List Te) (h p : Nat) (T : BT) (fT : Nat → Nat) (x : Te) (w : World) (H : TreeAt lk w t L h p T fT) : Calls Tryz.prog 20 #[.pointer (some ⟨t, 0, none⟩), .agg #[.string x.key, .int .i64 x.no]] w fun e w' => e = .returned (.int .i64 (putEr L x)) ∧ TreeTurned lk w w' t fT (putLs L x) :=
  (tputX_any lk t L h p T fT x w H).mono fun _ _ ⟨he, hx⟩ => ⟨he, hx.out⟩
open Go.RowKit Go.Shelf
theorem Turned.seq {W0 W1 W2 : World} {h p : Nat} {f f1 : Nat → Nat} {T' : BT} (hle : ∀ a, a < W0.heap.size → f1 a ≤ f a) (hF : FR f W0 W1) (ht : Turned W1 W2 h p f1 T') : Turned W0 W2 h p f T' := by
  obtain ⟨f', t1, t2, t3, t4⟩ := ht
  have hsz := hF.2.2.2.1
  exact ⟨f', t1, t2, fun a ha => Nat.le_trans (t3 a (Nat.lt_of_lt_of_le ha hsz)) (hle a ha), hF.trans t4 (fun k hk h0 => by have := hle k hk; omega)⟩
theorem Turned.ret2 {w W0 W : World} {h p b : Nat} {f : Nat → Nat} {T' : BT} (hx : Ext w W0) (ht : Turned W0 W h p f T') (hb : w.heap.size ≤ b) (hb2 : b < W0.heap.size) (h0 : f b = 0) (u v : Value) : Turned w ((W.setCell ⟨b, 0, none⟩ u).setCell ⟨b, 1, none⟩ v) h p f T' := by
  obtain ⟨f', t1, t2, t3, t4⟩ := ht
  have hb0 : f' b = 0 := by have := t3 b hb2; omega
  have hsz := hx.size
  refine ⟨f', (t1.setc hb0).setc hb0, t2, fun a ha => t3 a (Nat.lt_of_lt_of_le ha hsz), ?_⟩
  have h1 : FR f w W := (FR.of_ext (f := f) hx).trans t4 (fun _ _ h => h)
  have hz : ∀ k, k < w.heap.size → f k = 0 → one1 b k = 0 := fun k hk _ => if_neg (by omega)
  exact (h1.trans fr_set hz).trans fr_set hz
theorem leaf_cut {w W : World} {p m : Nat} {l : List Te} {A : Option Addr} {c : Nat} {kv : Value} {f : Nat → Nat} (hx : Ext w W) (e1 : W.heap[p]? = some (.cells #[.slice A l.length c, kv] 48 (0, 0))) (e2 : W.ownsRow 0 65 2 (.slice A l.length c) l.length (tents l)) (e3 : W.ownsRow 0 44 1 kv 0 (ptrs [])) (e4 : ∀ a, f a = one1 p a + ob (.slice A l.length c) a + ob kv a) (hn : ∀ a, f a ≤ 1) (hm : m ≤ l.length) :
    Turned w (W.setCell ⟨p, 0, none⟩ (.slice A m c)) 0 p f (.nd (l.take m) []) := by
  have o1 := own_cut e2 hm
  rw [tents_take] at o1
  exact leaf_put (l' := l.take m) hx e1 e2 e3 e4 hn ⟨World.grownBy.refl _ _, .inl (own_same (n := l.length) rfl)⟩ (by rw [List.length_take, Nat.min_eq_left hm]; exact o1)
theorem kid_shut {w' : World} {h p q i : Nat} {l : List Te} {ks : List BT} {ps : List Nat} {lv kv : Value} {g0 g1' g2 : Nat → Nat} {K' : BT} (t1 : TN w' h q K' g1') (t2 : w'.heap[p]? = some (.cells #[lv, kv] 48 (0, 0))) (t3 : w'.ownsRow 0 65 2 lv l.length (tents l)) (t4 : w'.ownsRow 0 44 1 kv ps.length (ptrs ps)) (t5 : Ks (TN w' h) (ps.take i) (ks.take i) g0) (t6 : Ks (TN w' h) (ps.drop (i + 1)) (ks.drop (i + 1)) g2) (hpi : ps[i]? = some q) (hi : i < ks.length) :
    TN w' (h + 1) p (.nd l (ks.set i K')) (fun a => one1 p a + ob lv a + ob kv a + (g0 a + g1' a + g2 a)) := by
  refine TN.shut t2 t3 t4 (show Kd w' (h + 1) ps (ks.set i K') (fun a => g0 a + g1' a + g2 a) from ?_) (fun _ => rfl)
  have hks := set_cut (l := ks) (i := i) hi K'
  have hps : ps = ps.take i ++ q :: ps.drop (i + 1) := by
    have := list_cut (l := ps) (i := i) (List.getElem?_eq_some_iff.1 hpi).1
    rw [(List.getElem?_eq_some_iff.1 hpi).2] at this
    exact this
  rw [hks]
  have hm := Ks.mid t5 t1 t6
  rw [← hps] at hm
  exact hm
theorem last_any : ∀ (h p : Nat) (T : BT) (f : Nat → Nat) (w : World), TN w h p T f → (∀ a, f a ≤ 1) → Shp h T → 1 ≤ T.l.length → T.l.length ≤ 4 → ∀ (T' : BT) (x : Te), Hid ((T', x) = lastT h T) →
    Calls Tryz.prog 52 #[.pointer (some ⟨p, 0, none⟩)] w fun e w' => e = .returned (.agg #[.string x.key, .int .i64 x.no]) ∧ Turned w w' h p f T' := by
  intro h
  induction h with
  | zero =>
    intro p T f w hT hn hs h1 h4 T' x hx
    obtain ⟨l, ks⟩ := T
    have hfb : Hid (f w.heap.size = 0) := hT.bound _ (Nat.le_refl _)
    obtain ⟨rfl, lv, kv, e1, e2, e3, e4⟩ := hT
    obtain ⟨A, c, rfl, hr⟩ := own_rd e2
    obtain ⟨kA, kc, rfl, -⟩ := own_rd e3
    have hl1 : 1 ≤ l.length := h1
    have hl4 : l.length ≤ 4 := h4
    obtain ⟨m, hm⟩ : ∃ m, l.length = m + 1 := ⟨l.length - 1, by omega⟩
    have hmx := Rd.max hr
    have hx0 := hid ((Ext.refl w).alloc_right (.cells #[.string ⟨#[]⟩, .int .i64 0] 65))
    have ha := heap_alloc_new w (.cells #[.string ⟨#[]⟩, .int .i64 0] 65)
    obtain ⟨rfl, rfl⟩ : T' = .nd (l.take m) [] ∧ x = tth l m := by
      have := hx.out
      unfold lastT at this
      rw [hm, Nat.add_sub_cancel] at this
      exact ⟨congrArg Prod.fst this, congrArg Prod.snd this⟩
    obtain ⟨ad, rfl, z0, z1⟩ := RdN.at_ hr (show m < l.length by omega)
    have hE : Hid (∀ W : World, Ext (w.alloc (.cells #[.string ⟨#[]⟩, .int .i64 0] 65)) W → Turned (w.alloc (.cells #[.string ⟨#[]⟩, .int .i64 0] 65)) (W.setCell ⟨p, 0, none⟩ (.slice (some ad) m c)) 0 p f (.nd (l.take m) [])) := fun W hW =>
      leaf_cut hW ((hW.block (by have := (Array.getElem?_eq_some_iff.1 e1).1; simp; omega)).trans ((hx0.out.block (Array.getElem?_eq_some_iff.1 e1).1).trans e1)) (hW.own (hx0.out.own e2)) (hW.own (hx0.out.own e3)) e4 hn (by omega)
    replace z0 := hx0.out.cell z0
    replace z1 := hx0.out.cell z1
    have c0 := hx0.out.cell (node_c0 e1)
    have c1 := hx0.out.cell (node_c1 e1)
    have lp := (Array.getElem?_eq_some_iff.1 e1).1
    have lp0 := World.block_lt_of_cell? _ _ c0
    dsimp only at lp0
    have hw1 : IntKind.i64.wrap ((l.length : Int) - 1) = (m : Int) := by rw [IntWalk.i64_in _ (by omega)]; omega
    have hw2 : ((l.length : Int) - 1) = (m : Int) := by omega
    have hw3 : (m : Int) < (l.length : Int) := by omega
    have hw4 : m ≤ c := by omega
    have hx9 := hid (fun (v : Value) (h : v = v) => (Ext.refl (w.alloc (.cells #[.string ⟨#[]⟩, .int .i64 0] 65))).alloc_right (.cells #[.string (tth l m).key, .int .i64 (tth l m).no] 65))
    have hf0 : (w.alloc (.cells #[.string ⟨#[]⟩, .int .i64 0] 65)).frozen? ⟨p, 0, none⟩ = false := Lib.frozen_of_heap ((hx0.out.block lp).trans e1) 0
    replace hm := hid hm
    clear hr e1 e2 e3 hx hs
    go_enter Tryz.func52, Tryz.ntmps52
    go_upto_region 1 with fail
    obtain ⟨b, hb⟩ : ∃ b, b = w.heap.size := ⟨_, rfl⟩
    rw [← hb] at ha hfb
    simp only [← hb]
    have lb := (Array.getElem?_eq_some_iff.1 ha).1
    have hbw : Hid (w.heap.size ≤ b) := by unfold Hid; omega
    replace hb := hid hb
    generalize w.alloc (.cells #[.string ⟨#[]⟩, .int .i64 0] 65) = W0 at *
    go_upto_region 4 with fail
    obtain ⟨d, hd⟩ : ∃ d, d = W0.heap.size := ⟨_, rfl⟩
    simp only [← hd]
    have hxd := (Ext.refl W0).alloc_right (.cells #[.string (tth l m).key, .int .i64 (tth l m).no] 65)
    have had := heap_alloc_new W0 (.cells #[.string (tth l m).key, .int .i64 (tth l m).no] 65)
    rw [← hd] at had
    have hT1 := hE.out _ hxd
    replace c0 := hxd.cell c0
    have hf1 : (W0.alloc (.cells #[.string (tth l m).key, .int .i64 (tth l m).no] 65)).frozen? ⟨p, 0, none⟩ = false := (hxd.frozen lp0).trans hf0
    replace ha := (hxd.block lb).trans ha
    have lpd := World.block_lt_of_cell? _ _ c0
    dsimp only at lpd
    have hdp : p ≠ d := by omega
    have hdb : b ≠ d := by omega
    have hbp : p ≠ b := fun e => by have := hfb.out; rw [← e, e4 p, one_self] at this; omega
    replace hd := hid hd
    clear c1 z0 z1 hxd hE hx9
    generalize W0.alloc (.cells #[.string (tth l m).key, .int .i64 (tth l m).no] 65) = W1 at *
    have g0 := heap_set_other had hdp 0 (.slice (some ad) m c)
    have g1 := heap_set_other ha hbp 0 (.slice (some ad) m c)
    go_upto_region 5 with fail
    clear c0 hf1 had
    replace hT1 := hid hT1
    replace ha := hid ha
    generalize W1.setCell ⟨p, 0, none⟩ (.slice (some ad) m c) = W2 at *
    have y0 : W2.cell? ⟨d, 0, none⟩ = some (.string (tth l m).key) := by rw [Lib.cell_of_heap g0]; rfl
    have y1 : W2.cell? ⟨d, 1, none⟩ = some (.int .i64 (tth l m).no) := by rw [Lib.cell_of_heap g0]; rfl
    have x0 : W2.cell? ⟨b, 0, none⟩ = some (.string ⟨#[]⟩) := by rw [Lib.cell_of_heap g1]; rfl
    have x1 : (W2.setCell ⟨b, 0, none⟩ (.string (tth l m).key)).cell? ⟨b, 1, none⟩ = some (.int .i64 0) := set_keep (by rw [Lib.cell_of_heap g1]; rfl) (off_ne (by decide))
    have f0 := Lib.frozen_of_heap g1 0
    have f1 : (W2.setCell ⟨b, 0, none⟩ (.string (tth l m).key)).frozen? ⟨b, 1, none⟩ = false := (World.frozen?_setCell _ _ _ _).trans (Lib.frozen_of_heap g1 1)
    have q0 : ((W2.setCell ⟨b, 0, none⟩ (.string (tth l m).key)).setCell ⟨b, 1, none⟩ (.int .i64 (tth l m).no)).cell? ⟨b, 0, none⟩ = some (.string (tth l m).key) := set_keep (set_get x0) (off_ne (by decide))
    have q1 : ((W2.setCell ⟨b, 0, none⟩ (.string (tth l m).key)).setCell ⟨b, 1, none⟩ (.int .i64 (tth l m).no)).cell? ⟨b, 1, none⟩ = some (.int .i64 (tth l m).no) := set_get x1
    have hfin := hid (Turned.ret2 (b := b) hx0.out hT1.out hbw.out lb hfb.out (.string (tth l m).key) (.int .i64 (tth l m).no))
    clear g0 g1 hT1
    go_wp2
    clear x0 x1 f0 f1 y0 y1
    generalize (W2.setCell ⟨b, 0, none⟩ (.string (tth l m).key)).setCell ⟨b, 1, none⟩ (.int .i64 (tth l m).no) = W3 at *
    exact bodyPost_ret (v := .agg #[.string (tth l m).key, .int .i64 (tth l m).no]) (by simp [results, Tryz.results52, go_sem, q0, q1]) rfl ⟨rfl, hfin.out⟩
  | succ h ih =>
    intro p T f w hT hn hs h1 h4 T' x hx
    obtain ⟨l, ks⟩ := T
    have hfm : Hid (∀ a, w.heap.size ≤ a → f a = 0) := hT.bound
    obtain ⟨lv, kv, ps, g, e1, e2, e3, e5, e4⟩ := hT
    have hl1 : 1 ≤ l.length := h1
    have hl4 : l.length ≤ 4 := h4
    have hkl : ks.length = l.length + 1 := hs.1
    have hpl := e5.len
    obtain ⟨m, hm⟩ : ∃ m, l.length = m + 1 := ⟨l.length - 1, by omega⟩
    obtain ⟨s1, s2, s3⟩ := kid_ok hs (Nat.le_refl l.length)
    obtain ⟨q, g0, g1, g2, hpi, hKq, k0, k2, hg⟩ := Ks.cut e5 (kth_some (show l.length < ks.length by omega))
    have hlo := last_ok h (kth ks l.length) s3 (by omega)
    obtain ⟨K', x', hK'⟩ : ∃ K' x', Hid ((K', x') = lastT h (kth ks l.length)) := ⟨_, _, rfl⟩
    rw [← hK'.out] at hlo
    dsimp only at hlo
    obtain ⟨rfl, rfl⟩ : T' = fillT l (ks.set l.length K') l.length ∧ x = x' := by
      have := hx.out
      unfold lastT at this
      rw [← hK'.out] at this
      exact ⟨congrArg Prod.fst this, congrArg Prod.snd this⟩
    have hnear := hid (near_set (l' := l) hs rfl hl1 (Nat.le_refl l.length) (J := K') ⟨by have := hlo.2.2.1; show 1 ≤ K'.l.length; exact (by omega : 1 ≤ K'.l.length), by have := hlo.2.2.2; show K'.l.length ≤ 4; exact (by omega : K'.l.length ≤ 4), hlo.1⟩)
    have hn1 : ∀ a, g1 a ≤ 1 := fun a => by have := hn a; rw [e4 a, hg a] at this; omega
    have hx0 := hid ((Ext.refl w).alloc_right (.cells #[.string ⟨#[]⟩, .int .i64 0] 65))
    have ha := heap_alloc_new w (.cells #[.string ⟨#[]⟩, .int .i64 0] 65)
    have ih' := hid (ih q (kth ks l.length) g1 (w.alloc (.cells #[.string ⟨#[]⟩, .int .i64 0] 65)) (hKq.ext hx0.out) hn1 s3 (by omega) s2 K' x hK')
    obtain ⟨A, c, rfl, hr⟩ := own_rd e2
    obtain ⟨kA, kc, rfl, hkr⟩ := own_rd e3
    obtain ⟨kad, rfl, -⟩ := hkr.2.2.2 (by omega)
    have hmx := Rd.max hr
    have hkmx := Rd.max hkr
    have c0 := hx0.out.cell (node_c0 e1)
    have c1 := hx0.out.cell (node_c1 e1)
    have cq := hx0.out.cell (rd_ptr hkr hpi)
    have lp := (Array.getElem?_eq_some_iff.1 e1).1
    have lp0 := World.block_lt_of_cell? _ _ c0
    dsimp only at lp0
    have hw1 : IntKind.i64.wrap ((l.length : Int) - 1) = (m : Int) := by rw [IntWalk.i64_in _ (by omega)]; omega
    have hw2 : ((l.length : Int) - 1) = (m : Int) := by omega
    have hw3 : IntKind.i64.wrap ((m : Int) + 1) = (l.length : Int) := by rw [IntWalk.i64_in _ (by omega)]; omega
    have hw4 : ((m : Int) + 1) = (l.length : Int) := by omega
    have hw5 : (l.length : Int) < (ps.length : Int) := by omega
    have hw6 : ((ps.length : Int) == 0) = false := by rw [beq_eq_false_iff_ne]; omega
    have hlps : l.length < ps.length := by omega
    have hlk : Hid (l.length < ks.length) := by unfold Hid; omega
    replace e1 := (hx0.out.block lp).trans e1
    replace e2 := hx0.out.own e2
    replace e3 := hx0.out.own e3
    replace k0 := Ks.frame (fun _ _ _ h1 (h2 : ∀ a, _ → (fun _ => 0) a = 0) => TN.ext h1 hx0.out) k0 (fun _ _ => rfl)
    replace k2 := Ks.frame (fun _ _ _ h1 (h2 : ∀ a, _ → (fun _ => 0) a = 0) => TN.ext h1 hx0.out) k2 (fun _ _ => rfl)
    replace e1 := hid e1
    replace e2 := hid e2
    replace e3 := hid e3
    replace k0 := hid k0
    replace k2 := hid k2
    replace hm := hid hm
    replace hpi := hid hpi
    replace hg := hid hg
    replace e4 := hid e4
    replace hn := hid hn
    replace hkl := hid hkl
    replace hpl := hid hpl
    clear hr hkr hx hs e5 hKq hlo s1 s2 s3 hn1 h1 h4
    go_enter Tryz.func52, Tryz.ntmps52
    go_upto_region 1 with fail
    obtain ⟨b, hb⟩ : ∃ b, b = w.heap.size := ⟨_, rfl⟩
    rw [← hb] at ha
    simp only [← hb]
    have lb := (Array.getElem?_eq_some_iff.1 ha).1
    have hbw : Hid (w.heap.size ≤ b) := by unfold Hid; omega
    have hfb : Hid (f b = 0) := hfm.out b (by omega)
    have hsz0 := hx0.out.size
    replace hb := hid hb
    generalize w.alloc (.cells #[.string ⟨#[]⟩, .int .i64 0] 65) = W0 at *
    go_wp2_with fail
    refine ih'.out.mono ?_
    rintro e' W1 ⟨rfl, ht⟩
    obtain ⟨g1', t1, t2, t3, t4, t5, t6, t7, t8, t9⟩ := kid_turned (f := f) e1.out e2.out e3.out hpi.out (kth_some hlk.out) k0.out k2.out (fun a => by rw [e4.out a, hg.out a]) hn.out (fun a ha => hfm.out a (Nat.le_trans hsz0 ha)) ht
    have hTN := hid (kid_shut t1 t2 t3 t4 t5 t6 hpi.out hlk.out)
    have hb1 := (t9.2.2.2.2 b lb hfb.out).trans ha
    replace t7 := hid t7
    replace t8 := hid t8
    replace t9 := hid t9
    have hxd := (Ext.refl W1).alloc_right (.cells #[.string x.key, .int .i64 x.no] 65)
    have had := heap_alloc_new W1 (.cells #[.string x.key, .int .i64 x.no] 65)
    have hfd := hTN.out.bound W1.heap.size (Nat.le_refl _)
    have hfill := hid (fill_any h p l.length l (ks.set l.length K') _ _ (hTN.out.ext hxd) t7.out hnear.out hl4)
    have hb2 := (hxd.block (Array.getElem?_eq_some_iff.1 hb1).1).trans hb1
    have hsz1 := hxd.size
    have t9' : Hid (FR f W0 (W1.alloc (.cells #[.string x.key, .int .i64 x.no] 65))) := t9.out.trans (FR.of_ext (f := f) hxd) (fun _ _ h => h)
    have lb1 := (Array.getElem?_eq_some_iff.1 hb1).1
    clear ih' ht t1 t2 t3 t4 t5 t6 c0 c1 cq hxd ha hb1
    go_wp2_with fail
    obtain ⟨d, hd⟩ : ∃ d, d = W1.heap.size := ⟨_, rfl⟩
    rw [← hd] at had hfd lb1
    simp only [← hd]
    replace hd := hid hd
    generalize W1.alloc (.cells #[.string x.key, .int .i64 x.no] 65) = W2 at *
    refine hfill.out.mono ?_
    rintro e' W3 ⟨rfl, ht⟩
    have hT3 := hid (Turned.seq t8.out t9'.out ht)
    obtain ⟨f3, r1, r2, r3, r4⟩ := ht
    have hb3 := (r4.2.2.2.2 b (Array.getElem?_eq_some_iff.1 hb2).1 (by have := t8.out b lb; have := hfb.out; show one1 p b + _ + _ + _ = 0; omega)).trans hb2
    have had3 := (r4.2.2.2.2 d (Array.getElem?_eq_some_iff.1 had).1 hfd).trans had
    clear hfill r1 r2 r3 r4 had hb2
    have y0 : W3.cell? ⟨d, 0, none⟩ = some (.string x.key) := by rw [Lib.cell_of_heap had3]; rfl
    have y1 : W3.cell? ⟨d, 1, none⟩ = some (.int .i64 x.no) := by rw [Lib.cell_of_heap had3]; rfl
    have x0 : W3.cell? ⟨b, 0, none⟩ = some (.string ⟨#[]⟩) := by rw [Lib.cell_of_heap hb3]; rfl
    have x1 : (W3.setCell ⟨b, 0, none⟩ (.string x.key)).cell? ⟨b, 1, none⟩ = some (.int .i64 0) := set_keep (by rw [Lib.cell_of_heap hb3]; rfl) (off_ne (by decide))
    have f0 := Lib.frozen_of_heap hb3 0
    have f1 : (W3.setCell ⟨b, 0, none⟩ (.string x.key)).frozen? ⟨b, 1, none⟩ = false := (World.frozen?_setCell _ _ _ _).trans (Lib.frozen_of_heap hb3 1)
    have q0 : ((W3.setCell ⟨b, 0, none⟩ (.string x.key)).setCell ⟨b, 1, none⟩ (.int .i64 x.no)).cell? ⟨b, 0, none⟩ = some (.string x.key) := set_keep (set_get x0) (off_ne (by decide))
    have q1 : ((W3.setCell ⟨b, 0, none⟩ (.string x.key)).setCell ⟨b, 1, none⟩ (.int .i64 x.no)).cell? ⟨b, 1, none⟩ = some (.int .i64 x.no) := set_get x1
    have hfin := hid (Turned.ret2 (b := b) hx0.out hT3.out hbw.out lb hfb.out (.string x.key) (.int .i64 x.no))
    clear hT3 had3 hb3 hfd hTN t7 t8 t9 t9'
    go_wp2
    clear x0 x1 f0 f1 y0 y1
    generalize (W3.setCell ⟨b, 0, none⟩ (.string x.key)).setCell ⟨b, 1, none⟩ (.int .i64 x.no) = W4 at *
    exact bodyPost_ret (v := .agg #[.string x.key, .int .i64 x.no]) (by simp [results, Tryz.results52, go_sem, q0, q1]) rfl ⟨rfl, hfin.out⟩
end Go.Proofs.YtjjikkhhlpikbaaGreatDoor
