/-
  Taking an entry out, plainly: the last entry, and the one that is asked for. No program in sight.
-/
import Derived.Test.YtpijfiaecicpfaaDa
namespace Go.Proofs.Ytpijfiaecicpfaa
set_option linter.unusedVariables false
set_option linter.unusedSimpArgs false
def lastT : Nat → BT → BT × Te
  | 0, .nd l ks => (.nd (l.take (l.length - 1)) ks, tth l (l.length - 1))
  | h + 1, .nd l ks => (fillT l (ks.set l.length (lastT h (kth ks l.length)).1) l.length, (lastT h (kth ks l.length)).2)
def takeT : Nat → BT → Te → BT
  | 0, .nd l ks, e => .nd (l.take (rankT l e) ++ l.drop (rankT l e + 1)) ks
  | h + 1, .nd l ks, e => if memT l e = true then fillT (l.set (rankT l e) (lastT h (kth ks (rankT l e))).2) (ks.set (rankT l e) (lastT h (kth ks (rankT l e))).1) (rankT l e)
    else fillT l (ks.set (rankT l e) (takeT h (kth ks (rankT l e)) e)) (rankT l e)
theorem setC_cut {α : Type} {l : List α} {i : Nat} {x : α} (h : i < l.length) : l.set i x = l.take i ++ x :: l.drop (i + 1) := by
  rw [List.set_eq_take_append_cons_drop, if_pos h]
theorem flat_set {h : Nat} {l : List Te} {ks : List BT} {i : Nat} {J : BT} (hlen : ks.length = l.length + 1) (hi : i ≤ l.length) :
    flat (h + 1) (.nd l (ks.set i J)) = wvp (l.take i) ((ks.take i).map (flat h)) ++ (flat h J ++ tlW (l.drop i) ((ks.drop (i + 1)).map (flat h))) := by
  rw [setC_cut (by omega)]
  have := one_flat (h := h) (a := l.take i) (b := l.drop i) (p := ks.take i) (q := ks.drop (i + 1)) (J := J) (by rw [List.length_take, List.length_take]; omega)
  rwa [List.take_append_drop] at this
theorem flat_at {h : Nat} {l : List Te} {ks : List BT} {i : Nat} (hlen : ks.length = l.length + 1) (hi : i ≤ l.length) :
    flat (h + 1) (.nd l ks) = wvp (l.take i) ((ks.take i).map (flat h)) ++ (flat h (kth ks i) ++ tlW (l.drop i) ((ks.drop (i + 1)).map (flat h))) := by
  have h1 := flat_set (h := h) (J := kth ks i) hlen hi
  rw [kth_get (by omega), List.set_getElem_self] at h1
  rw [kth_get (by omega)]
  exact h1
theorem kth_set {ks : List BT} {i : Nat} {J : BT} (hi : i < ks.length) : kth (ks.set i J) i = J := by
  rw [kth_get (by rw [List.length_set]; exact hi), List.getElem_set_self]
theorem kth_set_ne {ks : List BT} {i j : Nat} {J : BT} (hj : j < ks.length) (hne : j ≠ i) : kth (ks.set i J) j = kth ks j := by
  rw [kth_get (by rw [List.length_set]; exact hj), kth_get hj, List.getElem_set_ne (fun e => hne e.symm)]
theorem kid_ok {h : Nat} {l : List Te} {ks : List BT} (hs : Shp (h + 1) (.nd l ks)) {i : Nat} (hi : i ≤ l.length) : 2 ≤ (kth ks i).l.length ∧ (kth ks i).l.length ≤ 4 ∧ Shp h (kth ks i) := by
  have hl : ks.length = l.length + 1 := hs.1
  rw [kth_get (by omega)]
  exact hs.2 _ (List.getElem_mem _)
theorem near_set {h : Nat} {l l' : List Te} {ks : List BT} (hs : Shp (h + 1) (.nd l ks)) (hl : l'.length = l.length) (hn : 1 ≤ l.length) {i : Nat} (hi : i ≤ l.length) {J : BT} (hJ : 1 ≤ J.l.length ∧ J.l.length ≤ 4 ∧ Shp h J) : Near h l' (ks.set i J) i := by
  have hk : ks.length = l.length + 1 := hs.1
  refine ⟨by rw [List.length_set, hl]; exact hk, by omega, by omega, fun j hj hne => ?_, ?_⟩
  · rw [List.length_set] at hj
    rw [kth_set_ne hj hne]
    exact kid_ok hs (by omega)
  · rw [kth_set (by omega)]
    exact hJ
theorem last_ok : ∀ (h : Nat) (T : BT), Shp h T → 1 ≤ T.l.length → Shp h (lastT h T).1 ∧ flat h T = flat h (lastT h T).1 ++ [(lastT h T).2] ∧ T.l.length ≤ (lastT h T).1.l.length + 1 ∧ (lastT h T).1.l.length ≤ T.l.length
  | 0, .nd l ks, hs, h1 => by
    have h1' : 1 ≤ l.length := h1
    obtain ⟨-, -, e1, -⟩ := cutLast hs h1'
    refine ⟨hs, e1, ?_, ?_⟩
    · show l.length ≤ (l.take (l.length - 1)).length + 1
      rw [List.length_take]; omega
    · show (l.take (l.length - 1)).length ≤ l.length
      rw [List.length_take]; omega
  | h + 1, .nd l ks, hs, h1 => by
    have h1' : 1 ≤ l.length := h1
    have hk := kid_ok hs (Nat.le_refl l.length)
    obtain ⟨a, b, c, d⟩ := last_ok h (kth ks l.length) hk.2.2 (by omega)
    have hN := near_set (l' := l) (J := (lastT h (kth ks l.length)).1) hs rfl h1' (Nat.le_refl _) ⟨by omega, by omega, a⟩
    obtain ⟨f1, f2, f3, f4⟩ := fill_ok hN
    refine ⟨f1, ?_, f3, f4⟩
    show flat (h + 1) (.nd l ks) = flat (h + 1) (fillT l (ks.set l.length (lastT h (kth ks l.length)).1) l.length) ++ [(lastT h (kth ks l.length)).2]
    rw [f2, flat_at hs.1 (Nat.le_refl _), flat_set hs.1 (Nat.le_refl _), b, List.drop_length]
    simp [tlW]
theorem at_rank {l : List Te} (hS : Srt l) {e : Te} (he : e ∈ l) : rankT l e < l.length ∧ l.drop (rankT l e) = e :: l.drop (rankT l e + 1) := by
  obtain ⟨h1, h2, h3⟩ := rank_cut hS e
  have hd : e ∈ l.drop (rankT l e) := by
    rw [← List.take_append_drop (rankT l e) l] at he
    rcases List.mem_append.1 he with h | h
    · have := h2 e h
      rw [cmpT_refl] at this
      exact absurd this (by decide)
    · exact h
  have hlt : rankT l e < l.length := by
    rcases Nat.lt_or_ge (rankT l e) l.length with h | h
    · exact h
    · rw [List.drop_of_length_le h] at hd; cases hd
  refine ⟨hlt, ?_⟩
  have hc : l.drop (rankT l e) = l[rankT l e] :: l.drop (rankT l e + 1) := List.drop_eq_getElem_cons hlt
  have hSd : Srt (l.drop (rankT l e)) := hS.sublist (List.drop_sublist _ _)
  rw [hc] at hd hSd h3 ⊢
  rcases List.mem_cons.1 hd with h | h
  · rw [← h]
  · exact absurd ((srt_cons.1 hSd).1 e h) (h3 _ List.mem_cons_self)
theorem del_head (e : Te) (R : List Te) : delT (e :: R) e = R := by
  unfold delT
  rw [cmpT_refl]
  simp
theorem del_cut {l : List Te} (hS : Srt l) {e : Te} (he : e ∈ l) : delT l e = l.take (rankT l e) ++ l.drop (rankT l e + 1) := by
  obtain ⟨h1, h2, h3⟩ := rank_cut hS e
  obtain ⟨g1, g2⟩ := at_rank hS he
  have e1 : l = l.take (rankT l e) ++ e :: l.drop (rankT l e + 1) := by
    conv => lhs; rw [← List.take_append_drop (rankT l e) l, g2]
  conv => lhs; rw [e1]
  rw [delT_app (fun x hx => by have := h2 x hx; omega), del_head]
theorem tlW_head (l2 : List Te) (ms : List (List Te)) : ∃ R, ∀ x, tlW (x :: l2) ms = x :: R := by
  cases ms with
  | nil => exact ⟨l2, fun _ => rfl⟩
  | cons m ms => exact ⟨m ++ tlW l2 ms, fun _ => rfl⟩
theorem take_ok : ∀ (h : Nat) (T : BT) (e : Te), Shp h T → (h ≠ 0 → 1 ≤ T.l.length) → Srt (flat h T) → e ∈ flat h T →
    Shp h (takeT h T e) ∧ flat h (takeT h T e) = delT (flat h T) e ∧ T.l.length ≤ (takeT h T e).l.length + 1 ∧ (takeT h T e).l.length ≤ T.l.length
  | 0, .nd l ks, e, hs, h1, hS, he => by
    obtain ⟨g1, -⟩ := at_rank (l := l) hS he
    refine ⟨hs, (del_cut (l := l) hS he).symm, ?_, ?_⟩
    · show l.length ≤ (l.take (rankT l e) ++ l.drop (rankT l e + 1)).length + 1
      rw [List.length_append, List.length_take, List.length_drop]; omega
    · show (l.take (rankT l e) ++ l.drop (rankT l e + 1)).length ≤ l.length
      rw [List.length_append, List.length_take, List.length_drop]; omega
  | h + 1, .nd l ks, e, hs, h1, hS, he => by
    have h1' : 1 ≤ l.length := h1 (Nat.succ_ne_zero _)
    obtain ⟨hl, K, hK, hf, hA, hB, hSK⟩ := node_lt hs hS e
    obtain ⟨r1, r2, r3⟩ := rank_cut hl e
    have hlen : ks.length = l.length + 1 := hs.1
    have hKe : kth ks (rankT l e) = K := by rw [kth_get (by omega)]; exact (List.getElem?_eq_some_iff.1 hK).2
    have hk := kid_ok hs r1
    have hfl := flat_at (h := h) hlen r1
    rw [hKe] at hk hfl
    by_cases hm : memT l e = true
    · obtain ⟨g1, g2⟩ := at_rank hl (memT_iff.1 hm)
      obtain ⟨a, b, c, d⟩ := last_ok h K hk.2.2 (by omega)
      have hN := near_set (l' := l.set (rankT l e) (lastT h K).2) (J := (lastT h K).1) hs (List.length_set ..) h1' r1 ⟨by omega, by omega, a⟩
      obtain ⟨f1, f2, f3, f4⟩ := fill_ok hN
      have et : takeT (h + 1) (.nd l ks) e = fillT (l.set (rankT l e) (lastT h K).2) (ks.set (rankT l e) (lastT h K).1) (rankT l e) := by
        show (if memT l e = true then _ else _) = _
        rw [if_pos hm, hKe]
      rw [List.length_set] at f3 f4
      rw [et]
      refine ⟨f1, ?_, f3, f4⟩
      obtain ⟨R, hR⟩ := tlW_head (l.drop (rankT l e + 1)) ((ks.drop (rankT l e + 1)).map (flat h))
      have hcut : l.set (rankT l e) (lastT h K).2 = l.take (rankT l e) ++ (lastT h K).2 :: l.drop (rankT l e + 1) := setC_cut g1
      have hx : (l.take (rankT l e)).length = rankT l e := by rw [List.length_take]; omega
      have e1 : (l.set (rankT l e) (lastT h K).2).take (rankT l e) = l.take (rankT l e) := by rw [hcut]; exact List.take_left' hx
      have e2 : (l.set (rankT l e) (lastT h K).2).drop (rankT l e) = (lastT h K).2 :: l.drop (rankT l e + 1) := by rw [hcut]; exact List.drop_left' hx
      rw [f2, flat_set (by rw [List.length_set]; exact hlen) (by rw [List.length_set]; exact r1), e1, e2, hR]
      rw [g2, hR] at hfl
      rw [hfl] at hS ⊢
      have hS2 := srt_app.1 hS
      have hS3 := srt_app.1 hS2.2.1
      rw [delT_app (fun x hx => by have := hA x hx; omega), delT_app (fun x hx => by have := hS3.2.2 x hx e List.mem_cons_self; omega), del_head, b]
      simp
    · have hel : e ∉ l := fun h => hm (memT_iff.2 h)
      have heK : e ∈ flat h K := by
        obtain ⟨K', hK', hmm⟩ := mem_node hs hS e
        rw [hK] at hK'
        obtain rfl := Option.some.inj hK'
        have hmm2 : memT (flat (h + 1) (.nd l ks)) e = true := memT_iff.2 he
        rw [hmm] at hmm2
        rcases Bool.or_eq_true_iff.1 hmm2 with h | h
        · exact absurd h hm
        · exact memT_iff.1 h
      obtain ⟨a, b, c, d⟩ := take_ok h K e hk.2.2 (fun _ => by omega) hSK heK
      have hN := near_set (l' := l) (J := takeT h K e) hs rfl h1' r1 ⟨by omega, by omega, a⟩
      obtain ⟨f1, f2, f3, f4⟩ := fill_ok hN
      have et : takeT (h + 1) (.nd l ks) e = fillT l (ks.set (rankT l e) (takeT h K e)) (rankT l e) := by
        show (if memT l e = true then _ else _) = _
        rw [if_neg hm, hKe]
      rw [et]
      refine ⟨f1, ?_, f3, f4⟩
      rw [f2, flat_set hlen r1, b, hfl, delT_app (fun x hx => by have := hA x hx; omega), delT_app2 heK]
/-- The root gives way to its one kid. -/
def rootT : Nat → BT → Nat × BT
  | 0, T => (0, T)
  | h + 1, .nd l ks => if l = [] then (h, kth ks 0) else (h + 1, .nd l ks)
theorem root_ok {h : Nat} {T : BT} (hs : Shp h T) (h4 : T.l.length ≤ 4) : Shp (rootT h T).1 (rootT h T).2 ∧ flat (rootT h T).1 (rootT h T).2 = flat h T ∧ (rootT h T).2.l.length ≤ 4 ∧ ((rootT h T).1 ≠ 0 → 1 ≤ (rootT h T).2.l.length) := by
  match h, T, hs, h4 with
  | 0, T, hs, h4 => exact ⟨hs, rfl, h4, fun h => absurd rfl h⟩
  | h + 1, .nd l ks, hs, h4 =>
    by_cases hl : l = []
    · have e : rootT (h + 1) (.nd l ks) = (h, kth ks 0) := if_pos hl
      rw [e]
      subst hl
      have hk := kid_ok hs (Nat.le_refl 0)
      refine ⟨hk.2.2, ?_, hk.2.1, fun _ => by have := hk.1; show 1 ≤ (kth ks 0).l.length; omega⟩
      have hlen : ks.length = 1 := hs.1
      have hd : ks.drop (0 + 1) = [] := List.drop_eq_nil_of_le (by omega)
      rw [flat_at (h := h) hs.1 (Nat.le_refl 0), hd]
      simp [wvp, tlW]
    · have e : rootT (h + 1) (.nd l ks) = (h + 1, .nd l ks) := if_neg hl
      rw [e]
      refine ⟨hs, rfl, h4, fun _ => ?_⟩
      rcases Nat.eq_zero_or_pos l.length with h0 | h0
      · exact absurd (List.eq_nil_of_length_eq_zero h0) hl
      · exact h0
end Go.Proofs.Ytpijfiaecicpfaa
